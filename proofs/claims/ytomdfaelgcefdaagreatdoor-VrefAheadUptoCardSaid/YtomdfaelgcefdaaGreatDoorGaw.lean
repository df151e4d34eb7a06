/- CkG CkH CkI CkJ CkM CkN CkO CkP CkQ. -/
import Derived.Test.YtomdfaelgcefdaaGreatDoorGav
set_option maxRecDepth 100000
set_option maxHeartbeats 64000000
namespace Go.Proofs.YtomdfaelgcefdaaGreatDoor
open Go
namespace Sh
namespace Ck
structure Cx where
 l : List El_grp
 fu : List Int
 el : List El_vt
 da : Int
 rf : List Bool
structure In where
 op : Int
 x : Int
 y : Int
 n : Int
 ty : List El_vt
def xC (c : Cx) : List V := [.imm .grp c.l,.imm .int c.fu,.cell,.cell,.cell,.cell,.imm .vt c.el,.int .i64 c.da,.imm .bool c.rf]
def iC (i : In) : List V := [.int .i64 i.op,.int .u32 i.x,.int .u32 i.y,.int .u64 i.n,.cell,.cell,.cell,.cell,.cell,.cell,.cell,.cell,.cell,.cell,.cell,.imm .vt i.ty,.cell]
def kC (c : Cx) (i : In) : AO KT ElT := .cells [.imm .grp c.l,.imm .int c.fu,.cell,.cell,.cell,.cell,.imm .vt c.el,.int .i64 c.da,.imm .bool c.rf,.ptr 0 0,.int .i64 i.op,.int .u32 i.x,.int .u32 i.y,.int .u64 i.n,.cell,.cell,.cell,.cell,.cell,.cell,.cell,.cell,.cell,.cell,.cell,.imm .vt i.ty,.cell]
def ckK (c : Cx) (i : In) (lo : List El_vt) (se : List Bool) (re : List El_vt) (m : Nat) (C : Cp) (op : List El_vt) (fr : List El_frame) : Heap KT ElT :=
 [ckC c.l lo.length se.length re.length (.own .vt 4 0 m C) (.own .frame 5 0 fr.length .whole),.row .vt lo,.row .bool se,.row .vt re,.row .vt op,.row .frame fr,kC c i]
def ckL (c : Cx) (i : In) (lo : List El_vt) (se : List Bool) (re : List El_vt) (X : AO KT ElT) (m : Nat) (C : Cp) (op : List El_vt) (fr : List El_frame) : Heap KT ElT :=
 [ckC c.l lo.length se.length re.length (.own .vt 7 0 m C) (.own .frame 5 0 fr.length .whole),.row .vt lo,.row .bool se,.row .vt re,X,.row .frame fr,kC c i,.row .vt op]
def okK (c : Cx) (i : In) (lo : List El_vt) (se : List Bool) (re : List El_vt) (fr : List El_frame) (rv : V) (ops : List El_vt) (r : V) (H : Heap KT ElT) : Prop :=
 r = rv ∧ ∃ m C op,m ≤ op.length ∧ C ≠ .unk ∧ op.take m = ops ∧ H = ckL c i lo se re .gone m C op fr
def okKA (c : Cx) (i : In) (lo : List El_vt) (se : List Bool) (re : List El_vt) (fr : List El_frame) (rv : V) (ops : List El_vt) (r : V) (H : Heap KT ElT) : Prop :=
 r = rv ∧ ∃ m C op,m ≤ op.length ∧ C ≠ .unk ∧ op.take m = ops ∧ (H = ckK c i lo se re m C op fr ∨ ∃ X,H = ckL c i lo se re X m C op fr)
theorem fadesL {c : Cx} {i : In} {lo : List El_vt} {se : List Bool} {re : List El_vt} {X : AO KT ElT} {m : Nat} {C : Cp} {op : List El_vt} {fr : List El_frame} : Fades (ckL c i lo se re X m C op fr) (ckL c i lo se re .gone m C op fr) := ⟨rfl,fun i o h => by
 match i,h with
 | 0,h => exact .inr h
 | 1,h => exact .inr h
 | 2,h => exact .inr h
 | 3,h => exact .inr h
 | 4,h => cases h; exact .inl rfl
 | 5,h => exact .inr h
 | 6,h => exact .inr h
 | 7,h => exact .inr h⟩
structure Gd (l : List El_grp) (fs : List El_frame) (f : El_frame) (h m : Nat) (C : Cp) (op : List El_vt) : Prop where
 hl : l.length ≤ 1048576
 hg : ∀ g ∈ l,good_grp 1048576 g
 hf : fs.length ≤ 4000000
 hh : f.height = (h : Int)
 hm : m ≤ op.length
 hm2 : m ≤ 20000000
 hC : C ≠ .unk
variable {c : Cx} {i : In} {lo : List El_vt} {se : List Bool} {re : List El_vt} {op : List El_vt} {fr fs : List El_frame} {f : El_frame} {h m : Nat} {C : Cp}
theorem okK_of {g : Nat} {vs : List V} {rv : V} {ops : List El_vt} (hid : vs.map (loc2 (ckK c i lo se re m C op fr) [0,1,2,3,4,5,6] []) = vs) (hrv : ∀ H js,loc H js [] rv = rv)
    (h : Spec S g vs (ckK c i lo se re m C op fr) (okKA c i lo se re fr rv ops)) : Spec S g vs (ckK c i lo se re m C op fr) (okK c i lo se re fr rv ops) := by
 have h2 : Spec S g vs (ckK c i lo se re m C op fr) (fun r H => r = rv ∧ ∃ m C op,m ≤ op.length ∧ C ≠ .unk ∧ op.take m = ops ∧ (H = ckK c i lo se re m C op fr ∨ H = ckL c i lo se re .gone m C op fr)) := by
  refine Spec.fade h ?_;rintro r H' ⟨rfl,m,C,op,h1,h2,h3,rfl | ⟨X,rfl⟩⟩
  · exact ⟨_,⟨rfl,fun i o h => .inr h⟩,rfl,m,C,op,h1,h2,h3,.inl rfl⟩
  · exact ⟨_,fadesL,rfl,m,C,op,h1,h2,h3,.inr rfl⟩
 refine Spec.relo ok [0,1,2,3,4,5,6] [] (by rfl) (okT_nil _ _ _) (okH_nil _ _ _) (by rw [hid]; exact h2) ?_;rintro r H' ⟨rfl,m,C,op,h1,h2,h3,rfl | rfl⟩
 · exact ⟨1,[0,1,2,3,7,5,6,4],rfl,rfl,hrv _ _,m,C,op,h1,h2,h3,rfl⟩
 · exact ⟨0,[0,1,2,3,4,5,6,7],rfl,rfl,hrv _ _,m,C,op,h1,h2,h3,rfl⟩
theorem c_PushesO {l : List El_grp} (hC : C ≠ .unk) (hf : 0 < fr.length) (hm : m ≤ op.length) (hm2 : m ≤ 20000000) (q : List El_vt) (n : Nat) (D : Cp) (hn : n ≤ q.length) (hq : n ≤ 16000000) :
    Spec S 55 [.ptr 0 0,.own .vt 6 0 n D] (ck l lo se re m C op fr ++ [.row .vt q]) fun r H => r = .int .i64 0 ∧ ∃ m' C' op',m' ≤ op'.length ∧ C' ≠ .unk ∧ op'.take m' = op.take m ++ q.take n ∧
     H = [ckC l lo.length se.length re.length (.own .vt 7 0 m' C') (.own .frame 5 0 fr.length .whole),.row .vt lo,.row .bool se,.row .vt re,.gone,.row .frame fr,.gone,.row .vt op'] := by
 refine Spec.relo ok [0,1,2,3,4,5] [6] (by rfl) ⟨trivial,⟨rfl,by omega⟩,trivial⟩ (by repeat' first | exact trivial | refine And.intro ?_ ?_) (c_Pushes hC hf hm hm2 ((q.drop 0).take n) (by simp; omega)) ?_;rintro r H' ⟨rfl,m',C',op',h1,h2,h3,rfl⟩;exact ⟨1,[0,1,2,3,4,5,7,6],rfl,rfl,rfl,m',C',op',h1,h2,by rw [h3,List.drop_zero],rfl⟩
theorem c_Push {l : List El_grp} (hC : C ≠ .unk) (hf : 0 < fr.length) (hm : m ≤ op.length) (hm2 : m ≤ 20000000) (v : El_vt) :
    Spec S 92 [.ptr 0 0,.agg (enc_vt v)] (ck l lo se re m C op fr) (okR l lo se re fr (.int .i64 0) (op.take m ++ [v])) := by
 cases C with
 | unk => exact absurd rfl hC
 | full =>
  have hp := c_PushesO (l := l) (lo := lo) (se := se) (re := re) (op := op) (fr := fr) (m := m) (C := .full) (by decide) hf hm hm2 [v] 1 .full (by simp) (by omega);refine specE ok sh92 rfl ?_;(conv=>whnf);try (refine ⟨by trivial,?_⟩;conv=>whnf)
  refine rQ [0,1,2,3,4,5,7] hp ?_;rintro r H' ⟨rfl,m',C',op',h1,h2,h3,rfl⟩;cases C';all_goals try exact absurd rfl h2
  all_goals
   (conv=>whnf);exact eQ [0,1,2,3,4,5,8] ⟨rfl,m',_,op',h1,h2,h3,rfl⟩
 | whole =>
  have hp := c_PushesO (l := l) (lo := lo) (se := se) (re := re) (op := op) (fr := fr) (m := m) (C := .whole) (by decide) hf hm hm2 [v] 1 .full (by simp) (by omega);refine specE ok sh92 rfl ?_;(conv=>whnf);try (refine ⟨by trivial,?_⟩;conv=>whnf)
  refine rQ [0,1,2,3,4,5,7] hp ?_;rintro r H' ⟨rfl,m',C',op',h1,h2,h3,rfl⟩;cases C';all_goals try exact absurd rfl h2
  all_goals
   (conv=>whnf);exact eQ [0,1,2,3,4,5,8] ⟨rfl,m',_,op',h1,h2,h3,rfl⟩
theorem c_swp (G : Gd c.l fs f h m C op) (out q : List El_vt) (hq : q.length ≤ 4000000) (ho : out.length ≤ 16000000) :
    Spec S 72 [.ptr 6 0,.imm .vt out,.imm .vt q] (ckK c i lo se re m C op (fs ++ [f])) (okK c i lo se re (fs ++ [f]) (.int .i64 (swapL c.l h f.dead (op.take m) q out).1) (swapL c.l h f.dead (op.take m) q out).2) := by
 have hs := c_Swap (lo := lo) (se := se) (re := re) G.hl G.hg fs f h G.hf G.hh G.hm G.hm2 G.hC q out hq ho;generalize fs ++ [f] = fr at *;generalize swapL c.l h f.dead (op.take m) q out = P at *;have hC := G.hC;clear G;obtain ⟨e,o⟩ := P;simp only at hs ⊢;cases C;all_goals try exact absurd rfl hC
 all_goals
  refine specE ok sh72 rfl ?_;(conv=>whnf);refine rQ [0,1,2,3,4,5] hs ?_;rintro r H' ⟨rfl,m2,C2,op2,hm2',hC2,ho2,rfl⟩;cases C2;all_goals try exact absurd rfl hC2
  all_goals
   (conv=>whnf);exact eQ [0,1,2,3,4,5,6,7] ⟨rfl,m2,_,op2,hm2',hC2,ho2,rfl⟩
def swR (c : Cx) (i : In) (lo : List El_vt) (se : List Bool) (re : List El_vt) (fr : List El_frame) (P : Int × List El_vt) (G : Heap KT ElT) (r : V) (H : Heap KT ElT) : Prop :=
 r = .int .i64 P.1 ∧ ∃ m C op,m ≤ op.length ∧ C ≠ .unk ∧ op.take m = P.2 ∧ H = [ckC c.l lo.length se.length re.length (.own .vt (7 + G.length) 0 m C) (.own .frame 5 0 fr.length .whole),.row .vt lo,.row .bool se,.row .vt re,.gone,.row .frame fr,kC c i] ++ G ++ [.row .vt op]
theorem c_swpOO (G : Gd c.l fs f h m C op) (xs ys : List El_vt) (n1 n2 : Nat) (c1 c2 : Cp) (h1 : n1 ≤ xs.length) (h2 : n2 ≤ ys.length) (hq : n2 ≤ 4000000) (ho : n1 ≤ 16000000) :
    Spec S 72 [.ptr 6 0,.own .vt 7 0 n1 c1,.own .vt 8 0 n2 c2] (ckK c i lo se re m C op (fs ++ [f]) ++ [.row .vt xs,.row .vt ys]) (swR c i lo se re (fs ++ [f]) (swapL c.l h f.dead (op.take m) (ys.take n2) (xs.take n1)) [.gone,.gone]) := by
 refine Spec.relo ok [0,1,2,3,4,5,6] [7,8] (by rfl) ⟨trivial,⟨rfl,by omega⟩,⟨rfl,by omega⟩,trivial⟩ (by repeat' first | exact trivial | refine And.intro ?_ ?_) (c_swp G ((xs.drop 0).take n1) ((ys.drop 0).take n2) (by simp; omega) (by simp; omega)) ?_;rintro r H' ⟨rfl,m',C',op',h1,h2,h3,rfl⟩;exact ⟨2,[0,1,2,3,4,5,6,8,9,7],rfl,rfl,by rw [List.drop_zero,List.drop_zero]; rfl,m',C',op',h1,h2,by rw [h3,List.drop_zero,List.drop_zero],rfl⟩
theorem c_swpNO (G : Gd c.l fs f h m C op) (ys : List El_vt) (n2 : Nat) (c2 : Cp) (h2 : n2 ≤ ys.length) (hq : n2 ≤ 4000000) :
    Spec S 72 [.ptr 6 0,.nils,.own .vt 7 0 n2 c2] (ckK c i lo se re m C op (fs ++ [f]) ++ [.row .vt ys]) (swR c i lo se re (fs ++ [f]) (swapL c.l h f.dead (op.take m) (ys.take n2) []) [.gone]) := by
 refine Spec.nil (vs' := [.ptr 6 0,.imm .vt [],.own .vt 7 0 n2 c2]) ?_ rfl (fun j u hj => ?_)
 · refine Spec.relo ok [0,1,2,3,4,5,6] [7] (by rfl) ⟨trivial,trivial,⟨rfl,by omega⟩,trivial⟩ (by repeat' first | exact trivial | refine And.intro ?_ ?_) (c_swp G [] ((ys.drop 0).take n2) (by simp; omega) (by simp)) ?_;rintro r H' ⟨rfl,m',C',op',h1,h2,h3,rfl⟩;exact ⟨1,[0,1,2,3,4,5,6,8,7],rfl,rfl,by rw [List.drop_zero]; rfl,m',C',op',h1,h2,by rw [h3,List.drop_zero],rfl⟩
 · match j,hj with
   | 0,hj => cases hj; exact ⟨_,rfl,.inl rfl⟩
   | 1,hj => cases hj; exact ⟨_,rfl,.inr ⟨rfl,_,rfl⟩⟩
   | 2,hj => cases hj; exact ⟨_,rfl,.inl rfl⟩
end Ck
end Sh
end Go.Proofs.YtomdfaelgcefdaaGreatDoor
namespace Go.Proofs.YtomdfaelgcefdaaGreatDoor
open Go
namespace Sh
namespace Ck
variable {c : Cx} {i : In} {lo : List El_vt} {se : List Bool} {re : List El_vt} {op : List El_vt} {fr fs : List El_frame} {f : El_frame} {h m : Nat} {C : Cp}
def U32 (n : Int) : Prop := 0 ≤ n ∧ n ≤ 4294967295
theorem c_num (n : Int) : SpecD S 73 [.int .i64 n] [] (.agg (enc_vt ⟨n,false,0⟩)) [] := by
 refine specE ok sh73 rfl ?_;(conv=>whnf);exact eQ [] (by exact ⟨rfl,rfl⟩)
theorem c_ref (b : Bool) (n : Int) : SpecD S 74 [.bool b,.int .i64 n] [] (.agg (enc_vt ⟨5,b,n⟩)) [] := by
 refine specE ok sh74 rfl ?_;(conv=>whnf);exact eQ [] (by exact ⟨rfl,rfl⟩)
theorem c_there (n k : Int) (hn : U32 n) : SpecD S 112 [.int .u32 n,.int .i64 k] [] (.bool (decide (n < k))) [] := by
 have hw : IntKind.i64.wrap n = n := wrap_i64 (by have := hn.1; omega) (by have := hn.2; omega);refine specE ok sh112 rfl ?_;(conv=>whnf);refine eQ [] ⟨?_,rfl⟩;show AV.bool (decide (IntKind.i64.wrap n < k)) = _;rw [hw]
theorem c_self (b : Bool) (hx : U32 i.x) : SpecD S 121 [.ptr 6 0,.bool b] (ckK c i lo se re m C op fr) (.agg (enc_vt ⟨5,b,i.x⟩)) (ckK c i lo se re m C op fr) := by
 have hw : IntKind.i64.wrap i.x = i.x := wrap_i64 (by have := hx.1; omega) (by have := hx.2; omega);have hr := c_ref b (IntKind.i64.wrap i.x);cases C
 all_goals
  refine specE ok sh121 rfl ?_;(conv=>whnf);refine cQ [] hr ?_;(conv=>whnf);refine eQ [0,1,2,3,4,5,6] ⟨?_,rfl⟩;show AV.agg (enc_vt ⟨5,b,IntKind.i64.wrap i.x⟩) = _;rw [hw]
theorem c_known (hl : c.l.length ≤ 1048576) (hg : ∀ g ∈ c.l,good_grp 1048576 g) (n : Int) : SpecD S 115 [.ptr 6 0,.int .i64 n] (ckK c i lo se re m C op fr) (.bool (isF c.l n)) (ckK c i lo se re m C op fr) := by
 have hc := c_Count c.l hl hg;unfold isF;cases C
 all_goals
  refine specE ok sh115 rfl ?_;(conv=>whnf);cases h1 : decide (-12 ≤ n)
  · (conv=>whnf);exact eQ [0,1,2,3,4,5,6] (by exact ⟨rfl,rfl⟩)
  · (conv=>whnf);refine cQ [] hc ?_;(conv=>whnf);exact eQ [0,1,2,3,4,5,6] (by exact ⟨rfl,rfl⟩)
def enc4 (s : El_sub) : List V := [.int .i64 s.kind,slO .vt s.params,slO .vt s.results,slO .fld s.fields]
def cmpF (l : List El_grp) (n k : Int) : El_sub × Int := match atF l n with
 | none => (zeroT .sub,150)
 | some (s,_,_) => if s.kind ≠ k ∨ (k = 3 ∧ (s.fields.getD []).length ≠ 1) then (zeroT .sub,151) else (s,0)
theorem atG_mem {l : List El_grp} : ∀ {a : Nat} {n : Int} {s : El_sub} {g : Nat} {k : Int},0 ≤ n → atG a l n = some (s,g,k) → s ∈ flat l := by
 induction l with
 | nil => intro a n s g k _ h; cases h
 | cons x r ih =>
  intro a n s g k h0 h;simp only [atG] at h;split at h
  · rename_i hlt;cases h;have hx := getD_at (show n.toNat < (x.types.getD []).length by omega) (zeroT .sub);simp only [flat,List.flatMap_cons,List.mem_append];exact .inl (List.mem_of_getElem? hx)
  · rename_i hge;have := ih (by omega) h;simp only [flat,List.flatMap_cons,List.mem_append] at this ⊢;exact .inr this
theorem atF_good {l : List El_grp} (hg : ∀ g ∈ l,good_grp 1048576 g) {n : Int} {s : El_sub} {g : Nat} {k : Int} (h : atF l n = some (s,g,k)) : good_sub 1048576 s := by
 unfold atF at h;split at h
 · rename_i h0;exact flat_good hg s (atG_mem h0 h)
 · cases h
theorem c_comp (hl : c.l.length ≤ 1048576) (hg : ∀ g ∈ c.l,good_grp 1048576 g) (n : Int) (k : Int) (hn : U32 n) : SpecD S 119 [.ptr 6 0,.int .u32 n,.int .i64 k] (ckK c i lo se re m C op fr) (.tup [.agg (enc4 (cmpF c.l n k).1),.int .i64 (cmpF c.l n k).2]) (ckK c i lo se re m C op fr) := by
 have hw : IntKind.i64.wrap n = n := wrap_i64 (by have := hn.1; omega) (by have := hn.2; omega);have ha := c_At c.l hl hg n hn.2;rw [← hw] at ha;unfold cmpF
 cases hq : atF c.l n with
 | none =>
  rw [hw,hq,← hw] at ha;cases C
  all_goals
   refine specE ok sh119 rfl ?_;(conv=>whnf);refine cQ [] ha ?_;(conv=>whnf);try (refine ⟨by trivial,?_⟩;conv=>whnf)
   exact eQ [0,1,2,3,4,5,6] (by exact ⟨rfl,rfl⟩)
 | some p =>
  obtain ⟨s,g,j⟩ := p;have hgs := atF_good hg hq;rw [hw,hq,← hw] at ha;clear hq;obtain ⟨fi,sa,sk,sp,sr,sf⟩ := s;obtain ⟨⟨a,ha0,hal,hag⟩,hk,⟨p,hp0,hpl,hpg⟩,⟨r,hr0,hrl,hrg⟩,⟨f,hf0,hfl,hfg⟩⟩ := hgs;simp only at ha0 hk hp0 hr0 hf0;subst ha0 hp0 hr0 hf0;unfold atV at ha;simp only [Option.getD_some];cases h1 : (sk == k)
  · have h1' : ¬ sk = k := by simpa using h1
    rw [if_pos (.inl h1')];cases C
    all_goals
     refine specE ok sh119 rfl ?_;(conv=>whnf);refine cQ [] ha ?_;(conv=>whnf);try (refine ⟨by trivial,?_⟩;conv=>whnf)
     simp only [bne,h1];(conv=>whnf);exact eQ [0,1,2,3,4,5,6] (by exact ⟨rfl,rfl⟩)
  · have h1' : sk = k := by simpa using h1
    cases h2 : (k == 3)
    · have h2' : ¬ k = 3 := by simpa using h2
      rw [if_neg (fun h => h.elim (fun h => h h1') fun h => h2' h.1)];cases C
      all_goals
       refine specE ok sh119 rfl ?_;(conv=>whnf);refine cQ [] ha ?_;(conv=>whnf);try (refine ⟨by trivial,?_⟩;conv=>whnf)
       simp only [bne,h1];(conv=>whnf);simp only [h2];(conv=>whnf);exact eQ [0,1,2,3,4,5,6] (by exact ⟨rfl,rfl⟩)
    · have h2' : k = 3 := by simpa using h2
      cases h3 : ((f.length : Int) == 1)
      · have h3' : ¬ f.length = 1 := fun h => by rw [h] at h3; simp at h3
        rw [if_pos (.inr ⟨h2',h3'⟩)];cases C
        all_goals
         refine specE ok sh119 rfl ?_;(conv=>whnf);refine cQ [] ha ?_;(conv=>whnf);try (refine ⟨by trivial,?_⟩;conv=>whnf)
         simp only [bne,h1];(conv=>whnf);simp only [h2];(conv=>whnf);simp only [bne,h3];(conv=>whnf);exact eQ [0,1,2,3,4,5,6] (by exact ⟨rfl,rfl⟩)
      · have h3' : f.length = 1 := by
         have e : (f.length : Int) = 1 := by simpa using h3
         omega
        rw [if_neg (fun h => h.elim (fun h => h h1') fun h => h.2 h3')];cases C
        all_goals
         refine specE ok sh119 rfl ?_;(conv=>whnf);refine cQ [] ha ?_;(conv=>whnf);try (refine ⟨by trivial,?_⟩;conv=>whnf)
         simp only [bne,h1];(conv=>whnf);simp only [h2];(conv=>whnf);simp only [bne,h3];(conv=>whnf);exact eQ [0,1,2,3,4,5,6] (by exact ⟨rfl,rfl⟩)
end Ck
end Sh
end Go.Proofs.YtomdfaelgcefdaaGreatDoor
namespace Go.Proofs.YtomdfaelgcefdaaGreatDoor
open Go
namespace Sh
namespace Ck
variable {c : Cx} {i : In} {lo : List El_vt} {se : List Bool} {re : List El_vt} {op : List El_vt} {fr fs : List El_frame} {f : El_frame} {h m : Nat} {C : Cp}
def askF (o : Int) : Bool × Bool := if o = 64259 ∨ o = 64260 ∨ o = 64268 ∨ o = 64269 then (true,false) else if o = 64261 ∨ o = 64270 ∨ o = 64272 ∨ o = 64273 ∨ o = 64274 ∨ o = 64275 then (false,true) else (false,false)
theorem c_asks (o : Int) : SpecD S 151 [.int .i64 o] [] (.agg [.bool (askF o).1,.bool (askF o).2]) [] := by
 refine specE ok sh151 rfl ?_;conv=>whnf
 rcases hh64259 : (o == 64259) with _ | _
 rotate_left
 · have e : o = 64259 := by simpa using hh64259
   subst e;(conv=>whnf);exact eQ [] (by exact ⟨rfl,rfl⟩)
 have n64259 : ¬ o = 64259 := by simpa using hh64259
 conv=>whnf
 rcases hh64260 : (o == 64260) with _ | _
 rotate_left
 · have e : o = 64260 := by simpa using hh64260
   subst e;(conv=>whnf);exact eQ [] (by exact ⟨rfl,rfl⟩)
 have n64260 : ¬ o = 64260 := by simpa using hh64260
 conv=>whnf
 rcases hh64268 : (o == 64268) with _ | _
 rotate_left
 · have e : o = 64268 := by simpa using hh64268
   subst e;(conv=>whnf);exact eQ [] (by exact ⟨rfl,rfl⟩)
 have n64268 : ¬ o = 64268 := by simpa using hh64268
 conv=>whnf
 rcases hh64269 : (o == 64269) with _ | _
 rotate_left
 · have e : o = 64269 := by simpa using hh64269
   subst e;(conv=>whnf);exact eQ [] (by exact ⟨rfl,rfl⟩)
 have n64269 : ¬ o = 64269 := by simpa using hh64269
 conv=>whnf
 rcases hh64261 : (o == 64261) with _ | _
 rotate_left
 · have e : o = 64261 := by simpa using hh64261
   subst e;(conv=>whnf);exact eQ [] (by exact ⟨rfl,rfl⟩)
 have n64261 : ¬ o = 64261 := by simpa using hh64261
 conv=>whnf
 rcases hh64270 : (o == 64270) with _ | _
 rotate_left
 · have e : o = 64270 := by simpa using hh64270
   subst e;(conv=>whnf);exact eQ [] (by exact ⟨rfl,rfl⟩)
 have n64270 : ¬ o = 64270 := by simpa using hh64270
 conv=>whnf
 rcases hh64272 : (o == 64272) with _ | _
 rotate_left
 · have e : o = 64272 := by simpa using hh64272
   subst e;(conv=>whnf);exact eQ [] (by exact ⟨rfl,rfl⟩)
 have n64272 : ¬ o = 64272 := by simpa using hh64272
 conv=>whnf
 rcases hh64273 : (o == 64273) with _ | _
 rotate_left
 · have e : o = 64273 := by simpa using hh64273
   subst e;(conv=>whnf);exact eQ [] (by exact ⟨rfl,rfl⟩)
 have n64273 : ¬ o = 64273 := by simpa using hh64273
 conv=>whnf
 rcases hh64274 : (o == 64274) with _ | _
 rotate_left
 · have e : o = 64274 := by simpa using hh64274
   subst e;(conv=>whnf);exact eQ [] (by exact ⟨rfl,rfl⟩)
 have n64274 : ¬ o = 64274 := by simpa using hh64274
 conv=>whnf
 rcases hh64275 : (o == 64275) with _ | _
 rotate_left
 · have e : o = 64275 := by simpa using hh64275
   subst e;(conv=>whnf);exact eQ [] (by exact ⟨rfl,rfl⟩)
 have n64275 : ¬ o = 64275 := by simpa using hh64275
 conv=>whnf
 have e : askF o = (false,false) := by
  unfold askF;rw [if_neg (by omega),if_neg (by omega)]
 rw [e];exact eQ [] (by exact ⟨rfl,rfl⟩)
def pkF (n : Int) : Bool := n == 6 || n == 7
theorem c_packed (v : El_vt) : SpecD S 152 [.agg (enc_vt v)] [] (.bool (pkF v.num)) [] := by
 unfold pkF;refine specE ok sh152 rfl ?_;(conv=>whnf);cases h1 : (v.num == 6)
 · (conv=>whnf);exact eQ [] (by exact ⟨rfl,rfl⟩)
 · (conv=>whnf);exact eQ [] (by exact ⟨rfl,rfl⟩)
def fldF (o : Int) (g : El_fld) : Int := if ((askF o).2 && !g.mu) = true then 161 else if ((askF o).2 || ((askF o).1 == pkF g.num)) = true then 0 else 164
theorem c_field (g : El_fld) : SpecD S 122 [.ptr 6 0,.agg (enc_fld g)] (ckK c i lo se re m C op fr) (.int .i64 (fldF i.op g)) (ckK c i lo se re m C op fr) := by
 have ha := c_asks i.op;have hp := c_packed ⟨g.num,g.null,g.heap⟩;unfold fldF;simp only at hp;generalize askF i.op = w at ha ⊢;generalize pkF g.num = b at hp ⊢;obtain ⟨w1,w2⟩ := w;obtain ⟨gn,gu,gh,gm⟩ := g;simp only at ha hp ⊢;cases C
 all_goals
  refine specE ok sh122 rfl ?_;(conv=>whnf);refine cQ [] ha ?_;(conv=>whnf);cases w2
  · (conv=>whnf);refine cQ [] hp ?_;(conv=>whnf);try (refine ⟨by trivial,?_⟩;conv=>whnf)
    cases w1
    all_goals
     cases b
     · (conv=>whnf);exact eQ [0,1,2,3,4,5,6] (by exact ⟨rfl,rfl⟩)
     · (conv=>whnf);exact eQ [0,1,2,3,4,5,6] (by exact ⟨rfl,rfl⟩)
  · cases gm
    · (conv=>whnf);exact eQ [0,1,2,3,4,5,6] (by exact ⟨rfl,rfl⟩)
    · (conv=>whnf);exact eQ [0,1,2,3,4,5,6] (by exact ⟨rfl,rfl⟩)
noncomputable def segF (c : Cx) (i : In) (g : El_fld) : Int :=
 if i.op = 64265 ∨ i.op = 64274 then (if g.num = 5 then 165 else if i.y < c.da then 0 else 150)
 else if i.op = 64266 ∨ i.op = 64275 then (if i.y < c.el.length then (if valB c.l (c.el.getD i.y.toNat zvt) ⟨g.num,g.null,g.heap⟩ then 0 else 131) else 150)
 else 0
theorem c_refs1 (v : El_vt) : SpecD S 117 [.agg (enc_vt v)] [] (.agg (enc_vt ⟨1,false,0⟩)) [] := by
 have hn := c_num 1;refine specE ok sh117 rfl ?_;(conv=>whnf);refine cQ [] hn ?_;(conv=>whnf);exact eQ [] (by exact ⟨rfl,rfl⟩)
theorem c_refs2 (v : El_vt) : SpecD S 118 [.agg (enc_vt v)] [] (.agg (enc_vt ⟨v.num,false,v.heap⟩)) [] := by
 refine specE ok sh118 rfl ?_;(conv=>whnf);exact eQ [] (by exact ⟨rfl,rfl⟩)
def popdF (h : Nat) (d : Bool) (ops : List El_vt) (g : El_vt → El_vt) : Int × List El_vt :=
 if (popL h d ops).2.1 = 0 then (if (popL h d ops).1.num = 5 ∨ (popL h d ops).1.num = 0 then (0,(popL h d ops).2.2 ++ [g (popL h d ops).1]) else (131,(popL h d ops).2.2 ++ [(popL h d ops).1])) else ((popL h d ops).2.1,(popL h d ops).2.2)
theorem c_popped1 (G : Gd c.l fs f h m C op) : Spec S 116 [.ptr 6 0,.fn 117] (ckK c i lo se re m C op (fs ++ [f])) (okK c i lo se re (fs ++ [f]) (.int .i64 (popdF h f.dead (op.take m) (fun _ => ⟨1,false,0⟩)).1) (popdF h f.dead (op.take m) (fun _ => ⟨1,false,0⟩)).2) := by
 have hp := c_Pop (l := c.l) (lo := lo) (se := se) (re := re) (op := op) (m := m) (C := C) fs f h G.hf G.hh G.hm (by have := G.hm2; omega) G.hC;refine okK_of rfl (fun _ _ => rfl) ?_;have hf0 : 0 < (fs ++ [f]).length := by simp
 unfold popdF;generalize fs ++ [f] = fr at *;generalize popL h f.dead (op.take m) = p at *;obtain ⟨w,e,o⟩ := p;have hC := G.hC;have hm := G.hm;have hm2 := G.hm2;clear G;simp only at hp ⊢
 by_cases he : e = 0
 · subst he;rw [if_pos rfl];have hr := c_refs1 w
   by_cases h5 : w.num = 5 ∨ w.num = 0
   · rw [if_pos h5];cases C;all_goals try exact absurd rfl hC
     all_goals
      refine specE ok sh116 rfl ?_;(conv=>whnf);refine rQ [0,1,2,3,4,5] hp ?_;rintro r H' ⟨rfl,m',C',hC',hm',hq,ho,rfl⟩;have hpu := fun v => c_Push (l := c.l) (lo := lo) (se := se) (re := re) (op := op) (fr := fr) (m := m') (C := C') hC' hf0 (by omega) (by omega) v;rw [ho] at hpu;cases C';all_goals try exact absurd rfl hC'
      all_goals
       (conv=>whnf);cases h1 : (w.num == 5)
       · have h1' : ¬ w.num = 5 := by simpa using h1
         have h2 : (w.num == 0) = true := by simpa using h5.resolve_left h1'
         simp only [bne,h1];(conv=>whnf);simp only [bne,h2];(conv=>whnf);refine cQ [] hr ?_;(conv=>whnf);try (refine ⟨by trivial,?_⟩;conv=>whnf)
         refine rQ [0,1,2,3,4,5] (hpu _) ?_;rintro r H' ⟨rfl,m2,C2,op2,hm2',hC2,ho2,rfl⟩;cases C2;all_goals try exact absurd rfl hC2
         all_goals
          (conv=>whnf);exact eQ [0,1,2,3,4,5,6,8] ⟨rfl,m2,_,op2,hm2',hC2,ho2,.inr ⟨_,rfl⟩⟩
       · simp only [bne,h1];(conv=>whnf);refine cQ [] hr ?_;(conv=>whnf);try (refine ⟨by trivial,?_⟩;conv=>whnf)
         refine rQ [0,1,2,3,4,5] (hpu _) ?_;rintro r H' ⟨rfl,m2,C2,op2,hm2',hC2,ho2,rfl⟩;cases C2;all_goals try exact absurd rfl hC2
         all_goals
          (conv=>whnf);exact eQ [0,1,2,3,4,5,6,8] ⟨rfl,m2,_,op2,hm2',hC2,ho2,.inr ⟨_,rfl⟩⟩
   · rw [if_neg h5];cases C;all_goals try exact absurd rfl hC
     all_goals
      refine specE ok sh116 rfl ?_;(conv=>whnf);refine rQ [0,1,2,3,4,5] hp ?_;rintro r H' ⟨rfl,m',C',hC',hm',hq,ho,rfl⟩;have hpu := fun v => c_Push (l := c.l) (lo := lo) (se := se) (re := re) (op := op) (fr := fr) (m := m') (C := C') hC' hf0 (by omega) (by omega) v;rw [ho] at hpu;have h1 : (w.num == 5) = false := by simpa using fun h => h5 (.inl h)
      have h2 : (w.num == 0) = false := by simpa using fun h => h5 (.inr h)
      cases C';all_goals try exact absurd rfl hC'
      all_goals
       (conv=>whnf);simp only [bne,h1];(conv=>whnf);simp only [bne,h2];(conv=>whnf);refine rQ [0,1,2,3,4,5] (hpu w) ?_;rintro r H' ⟨rfl,m2,C2,op2,hm2',hC2,ho2,rfl⟩;cases C2;all_goals try exact absurd rfl hC2
       all_goals
        (conv=>whnf);exact eQ [0,1,2,3,4,5,6,8] ⟨rfl,m2,_,op2,hm2',hC2,ho2,.inr ⟨_,rfl⟩⟩
 · rw [if_neg he];have he2 : (e == 0) = false := by simpa using he
   cases C;all_goals try exact absurd rfl hC
   all_goals
    refine specE ok sh116 rfl ?_;(conv=>whnf);refine rQ [0,1,2,3,4,5] hp ?_;rintro r H' ⟨rfl,m',C',hC',hm',hq,ho,rfl⟩;cases C';all_goals try exact absurd rfl hC'
    all_goals
     (conv=>whnf);simp only [bne,he2];(conv=>whnf);exact eQ [0,1,2,3,4,5,6] ⟨rfl,m',_,op,by omega,hC',ho,.inl rfl⟩
theorem c_popped2 (G : Gd c.l fs f h m C op) : Spec S 116 [.ptr 6 0,.fn 118] (ckK c i lo se re m C op (fs ++ [f])) (okK c i lo se re (fs ++ [f]) (.int .i64 (popdF h f.dead (op.take m) (fun v => ⟨v.num,false,v.heap⟩)).1) (popdF h f.dead (op.take m) (fun v => ⟨v.num,false,v.heap⟩)).2) := by
 have hp := c_Pop (l := c.l) (lo := lo) (se := se) (re := re) (op := op) (m := m) (C := C) fs f h G.hf G.hh G.hm (by have := G.hm2; omega) G.hC;refine okK_of rfl (fun _ _ => rfl) ?_;have hf0 : 0 < (fs ++ [f]).length := by simp
 unfold popdF;generalize fs ++ [f] = fr at *;generalize popL h f.dead (op.take m) = p at *;obtain ⟨w,e,o⟩ := p;have hC := G.hC;have hm := G.hm;have hm2 := G.hm2;clear G;simp only at hp ⊢
 by_cases he : e = 0
 · subst he;rw [if_pos rfl];have hr := c_refs2 w
   by_cases h5 : w.num = 5 ∨ w.num = 0
   · rw [if_pos h5];cases C;all_goals try exact absurd rfl hC
     all_goals
      refine specE ok sh116 rfl ?_;(conv=>whnf);refine rQ [0,1,2,3,4,5] hp ?_;rintro r H' ⟨rfl,m',C',hC',hm',hq,ho,rfl⟩;have hpu := fun v => c_Push (l := c.l) (lo := lo) (se := se) (re := re) (op := op) (fr := fr) (m := m') (C := C') hC' hf0 (by omega) (by omega) v;rw [ho] at hpu;cases C';all_goals try exact absurd rfl hC'
      all_goals
       (conv=>whnf);cases h1 : (w.num == 5)
       · have h1' : ¬ w.num = 5 := by simpa using h1
         have h2 : (w.num == 0) = true := by simpa using h5.resolve_left h1'
         simp only [bne,h1];(conv=>whnf);simp only [bne,h2];(conv=>whnf);refine cQ [] hr ?_;(conv=>whnf);try (refine ⟨by trivial,?_⟩;conv=>whnf)
         refine rQ [0,1,2,3,4,5] (hpu _) ?_;rintro r H' ⟨rfl,m2,C2,op2,hm2',hC2,ho2,rfl⟩;cases C2;all_goals try exact absurd rfl hC2
         all_goals
          (conv=>whnf);exact eQ [0,1,2,3,4,5,6,8] ⟨rfl,m2,_,op2,hm2',hC2,ho2,.inr ⟨_,rfl⟩⟩
       · simp only [bne,h1];(conv=>whnf);refine cQ [] hr ?_;(conv=>whnf);try (refine ⟨by trivial,?_⟩;conv=>whnf)
         refine rQ [0,1,2,3,4,5] (hpu _) ?_;rintro r H' ⟨rfl,m2,C2,op2,hm2',hC2,ho2,rfl⟩;cases C2;all_goals try exact absurd rfl hC2
         all_goals
          (conv=>whnf);exact eQ [0,1,2,3,4,5,6,8] ⟨rfl,m2,_,op2,hm2',hC2,ho2,.inr ⟨_,rfl⟩⟩
   · rw [if_neg h5];cases C;all_goals try exact absurd rfl hC
     all_goals
      refine specE ok sh116 rfl ?_;(conv=>whnf);refine rQ [0,1,2,3,4,5] hp ?_;rintro r H' ⟨rfl,m',C',hC',hm',hq,ho,rfl⟩;have hpu := fun v => c_Push (l := c.l) (lo := lo) (se := se) (re := re) (op := op) (fr := fr) (m := m') (C := C') hC' hf0 (by omega) (by omega) v;rw [ho] at hpu;have h1 : (w.num == 5) = false := by simpa using fun h => h5 (.inl h)
      have h2 : (w.num == 0) = false := by simpa using fun h => h5 (.inr h)
      cases C';all_goals try exact absurd rfl hC'
      all_goals
       (conv=>whnf);simp only [bne,h1];(conv=>whnf);simp only [bne,h2];(conv=>whnf);refine rQ [0,1,2,3,4,5] (hpu w) ?_;rintro r H' ⟨rfl,m2,C2,op2,hm2',hC2,ho2,rfl⟩;cases C2;all_goals try exact absurd rfl hC2
       all_goals
        (conv=>whnf);exact eQ [0,1,2,3,4,5,6,8] ⟨rfl,m2,_,op2,hm2',hC2,ho2,.inr ⟨_,rfl⟩⟩
 · rw [if_neg he];have he2 : (e == 0) = false := by simpa using he
   cases C;all_goals try exact absurd rfl hC
   all_goals
    refine specE ok sh116 rfl ?_;(conv=>whnf);refine rQ [0,1,2,3,4,5] hp ?_;rintro r H' ⟨rfl,m',C',hC',hm',hq,ho,rfl⟩;cases C';all_goals try exact absurd rfl hC'
    all_goals
     (conv=>whnf);simp only [bne,he2];(conv=>whnf);exact eQ [0,1,2,3,4,5,6] ⟨rfl,m',_,op,by omega,hC',ho,.inl rfl⟩
end Ck
end Sh
end Go.Proofs.YtomdfaelgcefdaaGreatDoor
namespace Go.Proofs.YtomdfaelgcefdaaGreatDoor
open Go
namespace Sh
namespace Ck
variable {c : Cx} {i : In} {lo : List El_vt} {se : List Bool} {re : List El_vt} {op : List El_vt} {fr fs : List El_frame} {f : El_frame} {h m : Nat} {C : Cp}
noncomputable def turnF (l : List El_grp) (h : Nat) (d : Bool) (ops : List El_vt) (a b : Int) : Int × List El_vt :=
 if (popT l h d ops ⟨5,true,a⟩).2.1 = 0 then (0,(popT l h d ops ⟨5,true,a⟩).2.2 ++ [⟨5,(popT l h d ops ⟨5,true,a⟩).1.num == 5 && (popT l h d ops ⟨5,true,a⟩).1.null,b⟩]) else ((popT l h d ops ⟨5,true,a⟩).2.1,ops)
theorem c_turned (G : Gd c.l fs f h m C op) (a b : Int) : Spec S 78 [.ptr 6 0,.int .i64 a,.int .i64 b] (ckK c i lo se re m C op (fs ++ [f])) (okK c i lo se re (fs ++ [f]) (.int .i64 (turnF c.l h f.dead (op.take m) a b).1) (turnF c.l h f.dead (op.take m) a b).2) := by
 have hp := c_PopT (lo := lo) (se := se) (re := re) (op := op) (m := m) (C := C) G.hl G.hg fs f h G.hf G.hh G.hm (by have := G.hm2; omega) G.hC ⟨5,true,a⟩;refine okK_of rfl (fun _ _ => rfl) ?_;have hf0 : 0 < (fs ++ [f]).length := by simp
 have hr := c_ref true a;unfold turnF;generalize fs ++ [f] = fr at *;generalize popT c.l h f.dead (op.take m) ⟨5,true,a⟩ = p at *;obtain ⟨w,e,o⟩ := p;have hC := G.hC;have hm := G.hm;have hm2 := G.hm2;clear G;simp only at hp ⊢
 by_cases he : e = 0
 · subst he;rw [if_pos rfl];have hrb := fun x => c_ref x b;cases C;all_goals try exact absurd rfl hC
   all_goals
    refine specE ok sh78 rfl ?_;(conv=>whnf);refine ⟨?_,?_⟩
    · (conv=>whnf);refine cQ [] hr ?_;(conv=>whnf);refine tQ ?_;(conv=>whnf);refine ⟨?_,?_⟩
      · (conv=>whnf);refine rQ [0,1,2,3,4,5] hp ?_;rintro r H' ⟨rfl,⟨_,m',C',hC',hm',ho,rfl⟩ | ⟨he,_⟩⟩
        · simp only at ho;have hpu := fun v => c_Push (l := c.l) (lo := lo) (se := se) (re := re) (op := op) (fr := fr) (m := m') (C := C') hC' hf0 (by omega) (by omega) v;rw [ho] at hpu;cases C';all_goals try exact absurd rfl hC'
          all_goals
           (conv=>whnf);try (refine ⟨by trivial,?_⟩;conv=>whnf)
           try (refine ⟨by trivial,?_⟩;conv=>whnf)
           cases h1 : (w.num == 5)
           all_goals
            (conv=>whnf);refine cQ [] ((hrb _)) ?_;(conv=>whnf);try (refine ⟨by trivial,?_⟩;conv=>whnf)
            refine rQ [0,1,2,3,4,5] (hpu _) ?_;rintro r H' ⟨rfl,m2,C2,op2,hm2',hC2,ho2,rfl⟩;cases C2;all_goals try exact absurd rfl hC2
            all_goals
             (conv=>whnf);exact eQ [0,1,2,3,4,5,6,8] ⟨rfl,m2,_,op2,hm2',hC2,ho2,.inr ⟨_,rfl⟩⟩
        · exact absurd rfl he
      · (conv=>whnf);try (refine ⟨by trivial,?_⟩;conv=>whnf)
        refine rQ [0,1,2,3,4,5] hp ?_;rintro r H' ⟨rfl,⟨_,m',C',hC',hm',ho,rfl⟩ | ⟨he,_⟩⟩
        · simp only at ho;have hpu := fun v => c_Push (l := c.l) (lo := lo) (se := se) (re := re) (op := op) (fr := fr) (m := m') (C := C') hC' hf0 (by omega) (by omega) v;rw [ho] at hpu;cases C';all_goals try exact absurd rfl hC'
          all_goals
           (conv=>whnf);try (refine ⟨by trivial,?_⟩;conv=>whnf)
           try (refine ⟨by trivial,?_⟩;conv=>whnf)
           cases h1 : (w.num == 5)
           all_goals
            (conv=>whnf);refine cQ [] ((hrb _)) ?_;(conv=>whnf);try (refine ⟨by trivial,?_⟩;conv=>whnf)
            refine rQ [0,1,2,3,4,5] (hpu _) ?_;rintro r H' ⟨rfl,m2,C2,op2,hm2',hC2,ho2,rfl⟩;cases C2;all_goals try exact absurd rfl hC2
            all_goals
             (conv=>whnf);exact eQ [0,1,2,3,4,5,6,8] ⟨rfl,m2,_,op2,hm2',hC2,ho2,.inr ⟨_,rfl⟩⟩
        · exact absurd rfl he
    · (conv=>whnf);try (refine ⟨by trivial,?_⟩;conv=>whnf)
      refine cQ [] hr ?_;(conv=>whnf);try (refine ⟨by trivial,?_⟩;conv=>whnf)
      refine rQ [0,1,2,3,4,5] hp ?_;rintro r H' ⟨rfl,⟨_,m',C',hC',hm',ho,rfl⟩ | ⟨he,_⟩⟩
      · simp only at ho;have hpu := fun v => c_Push (l := c.l) (lo := lo) (se := se) (re := re) (op := op) (fr := fr) (m := m') (C := C') hC' hf0 (by omega) (by omega) v;rw [ho] at hpu;cases C';all_goals try exact absurd rfl hC'
        all_goals
         (conv=>whnf);try (refine ⟨by trivial,?_⟩;conv=>whnf)
         try (refine ⟨by trivial,?_⟩;conv=>whnf)
         cases h1 : (w.num == 5)
         all_goals
          (conv=>whnf);refine cQ [] ((hrb _)) ?_;(conv=>whnf);try (refine ⟨by trivial,?_⟩;conv=>whnf)
          refine rQ [0,1,2,3,4,5] (hpu _) ?_;rintro r H' ⟨rfl,m2,C2,op2,hm2',hC2,ho2,rfl⟩;cases C2;all_goals try exact absurd rfl hC2
          all_goals
           (conv=>whnf);exact eQ [0,1,2,3,4,5,6,8] ⟨rfl,m2,_,op2,hm2',hC2,ho2,.inr ⟨_,rfl⟩⟩
      · exact absurd rfl he
 · rw [if_neg he];have he2 : (e == 0) = false := by simpa using he
   cases C;all_goals try exact absurd rfl hC
   all_goals
    refine specE ok sh78 rfl ?_;(conv=>whnf);refine ⟨?_,?_⟩
    · (conv=>whnf);refine cQ [] hr ?_;(conv=>whnf);refine tQ ?_;(conv=>whnf);refine ⟨?_,?_⟩
      · (conv=>whnf);refine rQ [0,1,2,3,4,5] hp ?_;rintro r H' ⟨rfl,⟨he0,_⟩ | ⟨_,rfl | rfl⟩⟩
        · exact absurd he0 he
        · (conv=>whnf);try (refine ⟨by trivial,?_⟩;conv=>whnf)
          try (refine ⟨by trivial,?_⟩;conv=>whnf)
          simp only [bne,he2];(conv=>whnf);exact eQ [0,1,2,3,4,5,6] ⟨rfl,m,_,op,hm,hC,rfl,.inl rfl⟩
        · (conv=>whnf);try (refine ⟨by trivial,?_⟩;conv=>whnf)
          try (refine ⟨by trivial,?_⟩;conv=>whnf)
          simp only [bne,he2];(conv=>whnf);have hlen : m ≤ (op.take m).length := by simp; omega
          first
           | exact eQ [0,1,2,3,4,5,6,8] ⟨rfl,m,_,op.take m,hlen,by decide,by rw [List.take_take,Nat.min_self],.inr ⟨_,rfl⟩⟩
           | exact eQ [0,1,2,3,4,5,6,7] ⟨rfl,m,_,op.take m,hlen,by decide,by rw [List.take_take,Nat.min_self],.inr ⟨_,rfl⟩⟩
      · (conv=>whnf);try (refine ⟨by trivial,?_⟩;conv=>whnf)
        refine rQ [0,1,2,3,4,5] hp ?_;rintro r H' ⟨rfl,⟨he0,_⟩ | ⟨_,rfl | rfl⟩⟩
        · exact absurd he0 he
        · (conv=>whnf);try (refine ⟨by trivial,?_⟩;conv=>whnf)
          try (refine ⟨by trivial,?_⟩;conv=>whnf)
          simp only [bne,he2];(conv=>whnf);exact eQ [0,1,2,3,4,5,6] ⟨rfl,m,_,op,hm,hC,rfl,.inl rfl⟩
        · (conv=>whnf);try (refine ⟨by trivial,?_⟩;conv=>whnf)
          try (refine ⟨by trivial,?_⟩;conv=>whnf)
          simp only [bne,he2];(conv=>whnf);have hlen : m ≤ (op.take m).length := by simp; omega
          first
           | exact eQ [0,1,2,3,4,5,6,8] ⟨rfl,m,_,op.take m,hlen,by decide,by rw [List.take_take,Nat.min_self],.inr ⟨_,rfl⟩⟩
           | exact eQ [0,1,2,3,4,5,6,7] ⟨rfl,m,_,op.take m,hlen,by decide,by rw [List.take_take,Nat.min_self],.inr ⟨_,rfl⟩⟩
    · (conv=>whnf);try (refine ⟨by trivial,?_⟩;conv=>whnf)
      refine cQ [] hr ?_;(conv=>whnf);try (refine ⟨by trivial,?_⟩;conv=>whnf)
      refine rQ [0,1,2,3,4,5] hp ?_;rintro r H' ⟨rfl,⟨he0,_⟩ | ⟨_,rfl | rfl⟩⟩
      · exact absurd he0 he
      · (conv=>whnf);try (refine ⟨by trivial,?_⟩;conv=>whnf)
        try (refine ⟨by trivial,?_⟩;conv=>whnf)
        simp only [bne,he2];(conv=>whnf);exact eQ [0,1,2,3,4,5,6] ⟨rfl,m,_,op,hm,hC,rfl,.inl rfl⟩
      · (conv=>whnf);try (refine ⟨by trivial,?_⟩;conv=>whnf)
        try (refine ⟨by trivial,?_⟩;conv=>whnf)
        simp only [bne,he2];(conv=>whnf);have hlen : m ≤ (op.take m).length := by simp; omega
        first
         | exact eQ [0,1,2,3,4,5,6,8] ⟨rfl,m,_,op.take m,hlen,by decide,by rw [List.take_take,Nat.min_self],.inr ⟨_,rfl⟩⟩
         | exact eQ [0,1,2,3,4,5,6,7] ⟨rfl,m,_,op.take m,hlen,by decide,by rw [List.take_take,Nat.min_self],.inr ⟨_,rfl⟩⟩
 end Ck
 end Sh
 end Go.Proofs.YtomdfaelgcefdaaGreatDoor
namespace Go.Proofs.YtomdfaelgcefdaaGreatDoor
open Go
namespace Sh
namespace Ck
variable {c : Cx} {i : In} {lo : List El_vt} {se : List Bool} {re : List El_vt} {op : List El_vt} {fr fs : List El_frame} {f : El_frame} {h m : Nat} {C : Cp}
theorem c_refs208 (G : Gd c.l fs f h m C op) (x y n : Int) (ty : List El_vt) (ht : ty.length ≤ 4000000) :
    Spec S 70 [.ptr 6 0] (ckK c ⟨208,x,y,n,ty⟩ lo se re m C op (fs ++ [f])) (okK c ⟨208,x,y,n,ty⟩ lo se re (fs ++ [f])
     (.int .i64 (match ty with | [] => 1 | t :: _ => if isF c.l t.heap = true then 0 else 150)) (match ty with | [] => op.take m | t :: _ => if isF c.l t.heap = true then op.take m ++ [⟨5,true,t.heap⟩] else op.take m)) := by
 refine okK_of rfl (fun _ _ => rfl) ?_;have hf0 : 0 < (fs ++ [f]).length := by simp
 have hkn := fun t C => c_known (c := c) (i := ⟨208,x,y,n,ty⟩) (lo := lo) (se := se) (re := re) (op := op) (fr := fs ++ [f]) (m := m) (C := C) G.hl G.hg t;have hpu := fun v => c_Push (l := c.l) (lo := lo) (se := se) (re := re) (op := op) (fr := fs ++ [f]) (m := m) (C := C) G.hC hf0 G.hm G.hm2 v;generalize fs ++ [f] = fr at *;have hC := G.hC;have hm := G.hm;clear G
 cases ty with
 | nil =>
  cases C;all_goals try exact absurd rfl hC
  all_goals
   refine specE ok sh70 rfl ?_;(conv=>whnf);exact eQ [0,1,2,3,4,5,6] ⟨rfl,m,_,op,hm,hC,rfl,.inl rfl⟩
 | cons t r =>
  have hl0 : (((t :: r).length : Int) == 0) = false := by simp; omega
  have hkn := fun C => hkn t.heap C;simp only;generalize isF c.l t.heap = b at hkn ⊢;cases C;all_goals try exact absurd rfl hC
  all_goals
   refine specE ok sh70 rfl ?_;(conv=>whnf);refine ⟨rfl,by decide,by show (0 : Int) < ((t :: r).length : Nat); simp,?_⟩;(conv=>whnf);refine ⟨by show 0 < (t :: r).length; simp,by decide,?_⟩;(conv=>whnf);refine cQ [0,1,2,3,4,5,6] ((hkn _)) ?_;(conv=>whnf);cases b
   · (conv=>whnf);exact eQ [0,1,2,3,4,5,6] ⟨rfl,m,_,op,hm,hC,rfl,.inl rfl⟩
   · (conv=>whnf);refine ⟨rfl,by decide,by show (0 : Int) < ((t :: r).length : Nat); simp,?_⟩;(conv=>whnf);refine ⟨by show 0 < (t :: r).length; simp,by decide,?_⟩;(conv=>whnf);refine cQ [] ((c_ref true t.heap)) ?_;(conv=>whnf);try (refine ⟨by trivial,?_⟩;conv=>whnf)
     refine rQ [0,1,2,3,4,5] (hpu _) ?_;rintro r H' ⟨rfl,m2,C2,op2,hm2',hC2,ho2,rfl⟩;cases C2;all_goals try exact absurd rfl hC2
     all_goals
      (conv=>whnf);exact eQ [0,1,2,3,4,5,6,7] ⟨rfl,m2,_,op2,hm2',hC2,ho2,.inr ⟨_,rfl⟩⟩
theorem c_refs209 (G : Gd c.l fs f h m C op) (x y n : Int) (ty : List El_vt) :
    Spec S 70 [.ptr 6 0] (ckK c ⟨209,x,y,n,ty⟩ lo se re m C op (fs ++ [f])) (okK c ⟨209,x,y,n,ty⟩ lo se re (fs ++ [f]) (.int .i64 (popdF h f.dead (op.take m) (fun _ => ⟨1,false,0⟩)).1) (popdF h f.dead (op.take m) (fun _ => ⟨1,false,0⟩)).2) := by
 have hp := c_popped1 (i := ⟨209,x,y,n,ty⟩) (lo := lo) (se := se) (re := re) G;generalize popdF h f.dead (op.take m) (fun _ => ⟨1,false,0⟩) = P at *;obtain ⟨e,o⟩ := P;have hC := G.hC;clear G;simp only at hp ⊢;cases C;all_goals try exact absurd rfl hC
 all_goals
  refine specE ok sh70 rfl ?_;(conv=>whnf);refine rQ [0,1,2,3,4,5,6] hp ?_;rintro r H' ⟨rfl,m2,C2,op2,hm2',hC2,ho2,rfl⟩;cases C2;all_goals try exact absurd rfl hC2
  all_goals
   (conv=>whnf);exact eQ [0,1,2,3,4,5,6,7] ⟨rfl,m2,_,op2,hm2',hC2,ho2,rfl⟩
theorem c_refs212 (G : Gd c.l fs f h m C op) (x y n : Int) (ty : List El_vt) :
    Spec S 70 [.ptr 6 0] (ckK c ⟨212,x,y,n,ty⟩ lo se re m C op (fs ++ [f])) (okK c ⟨212,x,y,n,ty⟩ lo se re (fs ++ [f]) (.int .i64 (popdF h f.dead (op.take m) (fun v => ⟨v.num,false,v.heap⟩)).1) (popdF h f.dead (op.take m) (fun v => ⟨v.num,false,v.heap⟩)).2) := by
 have hp := c_popped2 (i := ⟨212,x,y,n,ty⟩) (lo := lo) (se := se) (re := re) G;generalize popdF h f.dead (op.take m) (fun v => ⟨v.num,false,v.heap⟩) = P at *;obtain ⟨e,o⟩ := P;have hC := G.hC;clear G;simp only at hp ⊢;cases C;all_goals try exact absurd rfl hC
 all_goals
  refine specE ok sh70 rfl ?_;(conv=>whnf);refine rQ [0,1,2,3,4,5,6] hp ?_;rintro r H' ⟨rfl,m2,C2,op2,hm2',hC2,ho2,rfl⟩;cases C2;all_goals try exact absurd rfl hC2
  all_goals
   (conv=>whnf);exact eQ [0,1,2,3,4,5,6,7] ⟨rfl,m2,_,op2,hm2',hC2,ho2,rfl⟩
theorem c_refs211 (G : Gd c.l fs f h m C op) (x y n : Int) (ty : List El_vt) :
    Spec S 70 [.ptr 6 0] (ckK c ⟨211,x,y,n,ty⟩ lo se re m C op (fs ++ [f])) (okK c ⟨211,x,y,n,ty⟩ lo se re (fs ++ [f]) (.int .i64 (swapL c.l h f.dead (op.take m) [⟨5,true,-6⟩,⟨5,true,-6⟩] [⟨1,false,0⟩]).1) (swapL c.l h f.dead (op.take m) [⟨5,true,-6⟩,⟨5,true,-6⟩] [⟨1,false,0⟩]).2) := by
 have hp := c_swpOO (i := ⟨211,x,y,n,ty⟩) (lo := lo) (se := se) (re := re) G [⟨1,false,0⟩] [⟨5,true,-6⟩,⟨5,true,-6⟩] 1 2 .full .full (by simp) (by simp) (by simp) (by simp)
 change Spec S _ _ _ (swR _ _ _ _ _ _ (swapL c.l h f.dead (op.take m) [⟨5,true,-6⟩,⟨5,true,-6⟩] [⟨1,false,0⟩]) _) at hp
 generalize swapL c.l h f.dead (op.take m) [⟨5,true,-6⟩,⟨5,true,-6⟩] [⟨1,false,0⟩] = P at *;obtain ⟨e,o⟩ := P;have hC := G.hC;clear G;have h1 := c_num 1;have h2 := c_ref true (-6);cases C;all_goals try exact absurd rfl hC
 all_goals
  refine specE ok sh70 rfl ?_;(conv=>whnf);refine cQ [] h1 ?_;(conv=>whnf);try (refine ⟨by trivial,?_⟩;conv=>whnf)
  refine cQ [] h2 ?_;(conv=>whnf);try (refine ⟨by trivial,?_⟩;conv=>whnf)
  refine cQ [] h2 ?_;(conv=>whnf);try (refine ⟨by trivial,?_⟩;conv=>whnf)
  refine rQ [0,1,2,3,4,5,6,7,8] hp ?_;rintro r H' ⟨rfl,m2,C2,op2,hm2',hC2,ho2,rfl⟩;cases C2;all_goals try exact absurd rfl hC2
  all_goals
   (conv=>whnf);exact eQ [0,1,2,3,4,5,6,9] ⟨rfl,m2,_,op2,hm2',hC2,ho2,rfl⟩
theorem c_refs210 (G : Gd c.l fs f h m C op) (x y n : Int) (ty : List El_vt) (hx : U32 x) :
    Spec S 70 [.ptr 6 0] (ckK c ⟨210,x,y,n,ty⟩ lo se re m C op (fs ++ [f])) (okK c ⟨210,x,y,n,ty⟩ lo se re (fs ++ [f])
     (.int .i64 (if x < c.fu.length then (if x < c.rf.length then (if c.rf.getD x.toNat false = true then 0 else 162) else 162) else 150)) (if x < c.fu.length then (if x < c.rf.length then (if c.rf.getD x.toNat false = true then op.take m ++ [⟨5,false,c.fu.getD x.toNat 0⟩] else op.take m) else op.take m) else op.take m)) := by
 refine okK_of rfl (fun _ _ => rfl) ?_;have hf0 : 0 < (fs ++ [f]).length := by simp
 have hpu := fun v => c_Push (l := c.l) (lo := lo) (se := se) (re := re) (op := op) (fr := fs ++ [f]) (m := m) (C := C) G.hC hf0 G.hm G.hm2 v;generalize fs ++ [f] = fr at *;have hC := G.hC;have hm := G.hm;clear G;have t1 := c_there x c.fu.length hx;have t2 := c_there x c.rf.length hx
 by_cases hd1 : x < c.fu.length
 · rw [if_pos hd1,if_pos hd1];rw [decide_eq_true hd1] at t1
   by_cases hd2 : x < c.rf.length
   · rw [if_pos hd2,if_pos hd2];rw [decide_eq_true hd2] at t2;have hb : c.rf.getD x.toNat (S.zero .bool) = c.rf.getD x.toNat false := rfl;have hfu : c.fu.getD x.toNat (S.zero .int) = c.fu.getD x.toNat 0 := rfl;generalize c.rf.getD x.toNat false = b at *;generalize c.fu.getD x.toNat 0 = z at *;cases C;all_goals try exact absurd rfl hC
     all_goals
      refine specE ok sh70 rfl ?_;(conv=>whnf);refine cQ [] t1 ?_;(conv=>whnf);refine cQ [] t2 ?_;(conv=>whnf);refine ⟨rfl,hx.1,hd2,?_⟩;(conv=>whnf);refine ⟨by have := hx.1; show x.toNat < c.rf.length; omega,by decide,?_⟩;rw [hb];(conv=>whnf);cases b
      · (conv=>whnf);exact eQ [0,1,2,3,4,5,6] ⟨rfl,m,_,op,hm,hC,rfl,.inl rfl⟩
      · (conv=>whnf);refine ⟨rfl,hx.1,hd1,?_⟩;(conv=>whnf);refine ⟨by have := hx.1; show x.toNat < c.fu.length; omega,by decide,?_⟩;rw [hfu];(conv=>whnf);refine cQ [] ((c_ref false z)) ?_;(conv=>whnf);try (refine ⟨by trivial,?_⟩;conv=>whnf)
        refine rQ [0,1,2,3,4,5] (hpu _) ?_;rintro r H' ⟨rfl,m2,C2,op2,hm2',hC2,ho2,rfl⟩;cases C2;all_goals try exact absurd rfl hC2
        all_goals
         (conv=>whnf);exact eQ [0,1,2,3,4,5,6,7] ⟨rfl,m2,_,op2,hm2',hC2,ho2,.inr ⟨_,rfl⟩⟩
   · rw [if_neg hd2,if_neg hd2];rw [decide_eq_false hd2] at t2;cases C;all_goals try exact absurd rfl hC
     all_goals
      refine specE ok sh70 rfl ?_;(conv=>whnf);refine cQ [] t1 ?_;(conv=>whnf);refine cQ [] t2 ?_;(conv=>whnf);exact eQ [0,1,2,3,4,5,6] ⟨rfl,m,_,op,hm,hC,rfl,.inl rfl⟩
 · rw [if_neg hd1,if_neg hd1];rw [decide_eq_false hd1] at t1;cases C;all_goals try exact absurd rfl hC
   all_goals
    refine specE ok sh70 rfl ?_;(conv=>whnf);refine cQ [] t1 ?_;(conv=>whnf);exact eQ [0,1,2,3,4,5,6] ⟨rfl,m,_,op,hm,hC,rfl,.inl rfl⟩
 end Ck
 end Sh
 end Go.Proofs.YtomdfaelgcefdaaGreatDoor
namespace Go.Proofs.YtomdfaelgcefdaaGreatDoor
open Go
namespace Sh
namespace Ck
variable {c : Cx} {i : In} {lo : List El_vt} {se : List Bool} {re : List El_vt} {op : List El_vt} {fr fs : List El_frame} {f : El_frame} {h m : Nat} {C : Cp}
noncomputable def castF (c : Cx) (i : In) (h : Nat) (d : Bool) (ops : List El_vt) : Int × List El_vt := match i.ty with
 | [] => (1,ops)
 | t :: _ => if (topF c.l t.heap).2 = 0 then swapL c.l h d ops [⟨5,true,(topF c.l t.heap).1⟩] [if i.op < 64278 then ⟨1,false,0⟩ else t] else (150,ops)
theorem c_casts (G : Gd c.l fs f h m C op) (o x y n : Int) (ty : List El_vt) :
    Spec S 76 [.ptr 6 0] (ckK c ⟨o,x,y,n,ty⟩ lo se re m C op (fs ++ [f])) (okK c ⟨o,x,y,n,ty⟩ lo se re (fs ++ [f]) (.int .i64 (castF c ⟨o,x,y,n,ty⟩ h f.dead (op.take m)).1) (castF c ⟨o,x,y,n,ty⟩ h f.dead (op.take m)).2) := by
 unfold castF;have hC := G.hC;have hm := G.hm
 cases ty with
 | nil =>
  refine okK_of rfl (fun _ _ => rfl) ?_;generalize fs ++ [f] = fr at *;cases C;all_goals try exact absurd rfl hC
  all_goals
   refine specE ok sh76 rfl ?_;(conv=>whnf);exact eQ [0,1,2,3,4,5,6] ⟨rfl,m,_,op,hm,hC,rfl,.inl rfl⟩
 | cons t r =>
  have htp := c_Top c.l G.hl G.hg t.heap;simp only;generalize topF c.l t.heap = tp at htp ⊢;obtain ⟨tp,te⟩ := tp;unfold pairV at htp;simp only at htp ⊢
  by_cases he : te = 0
  · subst he;rw [if_pos rfl];have hr := c_ref true tp;have hn := c_num 1
    by_cases hb : o < 64278
    · rw [if_pos hb];have hb2 : decide (o < 64278) = true := decide_eq_true hb;have hp := c_swpOO (i := ⟨o,x,y,n,t :: r⟩) (lo := lo) (se := se) (re := re) G [⟨1,false,0⟩] [⟨5,true,tp⟩] 1 1 .full .full (by simp) (by simp) (by simp) (by simp)
      change Spec S _ _ _ (swR _ _ _ _ _ _ (swapL c.l h f.dead (op.take m) [⟨5,true,tp⟩] [⟨1,false,0⟩]) _) at hp
      generalize fs ++ [f] = fr at *;generalize swapL c.l h f.dead (op.take m) [⟨5,true,tp⟩] [⟨1,false,0⟩] = P at *;obtain ⟨e,o'⟩ := P;clear G;simp only;cases C;all_goals try exact absurd rfl hC
      all_goals
       refine specE ok sh76 rfl ?_;(conv=>whnf);refine ⟨rfl,by decide,by show (0 : Int) < ((t :: r).length : Nat); simp,?_⟩;(conv=>whnf);refine ⟨by show 0 < (t :: r).length; simp,by decide,?_⟩;(conv=>whnf);refine cQ [] htp ?_;(conv=>whnf);simp only [hb2];(conv=>whnf);refine cQ [] hn ?_;(conv=>whnf);refine ⟨?_,?_⟩
       · (conv=>whnf);try (refine ⟨by trivial,?_⟩;conv=>whnf)
         refine cQ [] hr ?_;(conv=>whnf);try (refine ⟨by trivial,?_⟩;conv=>whnf)
         try (refine ⟨by trivial,?_⟩;conv=>whnf)
         refine rQ [0,1,2,3,4,5,6,8,9] hp ?_;rintro r H' ⟨rfl,m2,C2,op2,hm2',hC2,ho2,rfl⟩;cases C2;all_goals try exact absurd rfl hC2
         all_goals
          (conv=>whnf);exact eQ [0,1,2,3,4,5,6,10] ⟨rfl,m2,_,op2,hm2',hC2,ho2,rfl⟩
       · (conv=>whnf);refine cQ [] hr ?_;(conv=>whnf);try (refine ⟨by trivial,?_⟩;conv=>whnf)
         refine ⟨?_,?_⟩
         · (conv=>whnf);try (refine ⟨by trivial,?_⟩;conv=>whnf)
           try (refine ⟨by trivial,?_⟩;conv=>whnf)
           refine rQ [0,1,2,3,4,5,6,8,9] hp ?_;rintro r H' ⟨rfl,m2,C2,op2,hm2',hC2,ho2,rfl⟩;cases C2;all_goals try exact absurd rfl hC2
           all_goals
            (conv=>whnf);exact eQ [0,1,2,3,4,5,6,10] ⟨rfl,m2,_,op2,hm2',hC2,ho2,rfl⟩
         · (conv=>whnf);try (refine ⟨by trivial,?_⟩;conv=>whnf)
           try (refine ⟨by trivial,?_⟩;conv=>whnf)
           refine rQ [0,1,2,3,4,5,6,9,8] hp ?_;rintro r H' ⟨rfl,m2,C2,op2,hm2',hC2,ho2,rfl⟩;cases C2;all_goals try exact absurd rfl hC2
           all_goals
            (conv=>whnf);exact eQ [0,1,2,3,4,5,6,10] ⟨rfl,m2,_,op2,hm2',hC2,ho2,rfl⟩
    · rw [if_neg hb];have hb2 : decide (o < 64278) = false := decide_eq_false hb;have hp := c_swpOO (i := ⟨o,x,y,n,t :: r⟩) (lo := lo) (se := se) (re := re) G [t] [⟨5,true,tp⟩] 1 1 .full .full (by simp) (by simp) (by simp) (by simp)
      change Spec S _ _ _ (swR _ _ _ _ _ _ (swapL c.l h f.dead (op.take m) [⟨5,true,tp⟩] [t]) _) at hp
      generalize fs ++ [f] = fr at *;generalize swapL c.l h f.dead (op.take m) [⟨5,true,tp⟩] [t] = P at *;obtain ⟨e,o'⟩ := P;clear G;simp only;cases C;all_goals try exact absurd rfl hC
      all_goals
       refine specE ok sh76 rfl ?_;(conv=>whnf);refine ⟨rfl,by decide,by show (0 : Int) < ((t :: r).length : Nat); simp,?_⟩;(conv=>whnf);refine ⟨by show 0 < (t :: r).length; simp,by decide,?_⟩;(conv=>whnf);refine cQ [] htp ?_;(conv=>whnf);simp only [hb2];(conv=>whnf);refine ⟨?_,?_⟩
       · (conv=>whnf);try (refine ⟨by trivial,?_⟩;conv=>whnf)
         refine cQ [] hr ?_;(conv=>whnf);try (refine ⟨by trivial,?_⟩;conv=>whnf)
         try (refine ⟨by trivial,?_⟩;conv=>whnf)
         refine rQ [0,1,2,3,4,5,6,8,9] hp ?_;rintro r H' ⟨rfl,m2,C2,op2,hm2',hC2,ho2,rfl⟩;cases C2;all_goals try exact absurd rfl hC2
         all_goals
          (conv=>whnf);exact eQ [0,1,2,3,4,5,6,10] ⟨rfl,m2,_,op2,hm2',hC2,ho2,rfl⟩
       · (conv=>whnf);refine cQ [] hr ?_;(conv=>whnf);try (refine ⟨by trivial,?_⟩;conv=>whnf)
         refine ⟨?_,?_⟩
         · (conv=>whnf);try (refine ⟨by trivial,?_⟩;conv=>whnf)
           try (refine ⟨by trivial,?_⟩;conv=>whnf)
           refine rQ [0,1,2,3,4,5,6,8,9] hp ?_;rintro r H' ⟨rfl,m2,C2,op2,hm2',hC2,ho2,rfl⟩;cases C2;all_goals try exact absurd rfl hC2
           all_goals
            (conv=>whnf);exact eQ [0,1,2,3,4,5,6,10] ⟨rfl,m2,_,op2,hm2',hC2,ho2,rfl⟩
         · (conv=>whnf);try (refine ⟨by trivial,?_⟩;conv=>whnf)
           try (refine ⟨by trivial,?_⟩;conv=>whnf)
           refine rQ [0,1,2,3,4,5,6,9,8] hp ?_;rintro r H' ⟨rfl,m2,C2,op2,hm2',hC2,ho2,rfl⟩;cases C2;all_goals try exact absurd rfl hC2
           all_goals
            (conv=>whnf);exact eQ [0,1,2,3,4,5,6,10] ⟨rfl,m2,_,op2,hm2',hC2,ho2,rfl⟩
  · rw [if_neg he];have he2 : (te == 0) = false := by simpa using he
    refine okK_of rfl (fun _ _ => rfl) ?_;generalize fs ++ [f] = fr at *;clear G;cases C;all_goals try exact absurd rfl hC
    all_goals
     refine specE ok sh76 rfl ?_;(conv=>whnf);refine ⟨rfl,by decide,by show (0 : Int) < ((t :: r).length : Nat); simp,?_⟩;(conv=>whnf);refine ⟨by show 0 < (t :: r).length; simp,by decide,?_⟩;(conv=>whnf);refine cQ [] htp ?_;(conv=>whnf);simp only [bne,he2];(conv=>whnf);exact eQ [0,1,2,3,4,5,6] ⟨rfl,m,_,op,hm,hC,rfl,.inl rfl⟩
 end Ck
 end Sh
 end Go.Proofs.YtomdfaelgcefdaaGreatDoor
namespace Go.Proofs.YtomdfaelgcefdaaGreatDoor
open Go
namespace Sh
namespace Ck
variable {c : Cx} {i : In} {lo : List El_vt} {se : List Bool} {re : List El_vt} {op : List El_vt} {fr fs : List El_frame} {f : El_frame} {h m : Nat} {C : Cp}
theorem cmpF_cases {l : List El_grp} (hg : ∀ g ∈ l,good_grp 1048576 g) (n k : Int) : (∃ e,e ≠ 0 ∧ cmpF l n k = (zeroT .sub,e)) ∨ ∃ s,good_sub 1048576 s ∧ cmpF l n k = (s,0) ∧ (k = 3 → (s.fields.getD []).length = 1) := by
 unfold cmpF
 cases hq : atF l n with
 | none => exact .inl ⟨150,by decide,rfl⟩
 | some p =>
  obtain ⟨s,g,j⟩ := p;simp only
  by_cases hb : s.kind ≠ k ∨ (k = 3 ∧ (s.fields.getD []).length ≠ 1)
  · rw [if_pos hb]; exact .inl ⟨151,by decide,rfl⟩
  · rw [if_neg hb];exact .inr ⟨s,atF_good hg hq,rfl,fun h3 => Classical.byContradiction fun h4 => hb (.inr ⟨h3,h4⟩)⟩
def uqF (g : El_fld) : El_vt := unpF ⟨g.num,g.null,g.heap⟩
def tyF (g : El_fld) : El_vt := ⟨g.num,g.null,g.heap⟩
noncomputable def structF (c : Cx) (i : In) (h : Nat) (d : Bool) (ops : List El_vt) : Int × List El_vt :=
 if (cmpF c.l i.x 2).2 = 0 then
  (if i.op = 64256 then swapL c.l h d ops (((cmpF c.l i.x 2).1.fields.getD []).map uqF) [⟨5,false,i.x⟩]
  else if i.op = 64257 then (if ((cmpF c.l i.x 2).1.fields.getD []).all (fun g => dfl (tyF g)) then (0,ops ++ [⟨5,false,i.x⟩]) else (163,ops))
  else if i.y < ((cmpF c.l i.x 2).1.fields.getD []).length then
   (if fldF i.op (((cmpF c.l i.x 2).1.fields.getD []).getD i.y.toNat (zeroT .fld)) = 0 then
    (if i.op = 64261 then swapL c.l h d ops [⟨5,true,i.x⟩,uqF (((cmpF c.l i.x 2).1.fields.getD []).getD i.y.toNat (zeroT .fld))] []
    else swapL c.l h d ops [⟨5,true,i.x⟩] [uqF (((cmpF c.l i.x 2).1.fields.getD []).getD i.y.toNat (zeroT .fld))])
   else (fldF i.op (((cmpF c.l i.x 2).1.fields.getD []).getD i.y.toNat (zeroT .fld)),ops))
  else (150,ops))
 else ((cmpF c.l i.x 2).2,ops)
def snV (g : List El_fld) (j : Int) (n : Nat) : List V := [.ptr 6 0,.own .vt 7 0 n .whole,.imm .fld g,.int .i64 g.length,.int .i64 j]
def sdV (g : List El_fld) (j : Int) : List V := [.ptr 6 0,.imm .fld g,.int .i64 g.length,.int .i64 j]
abbrev cmpV (sk : Int) (p r : List El_vt) (g : List El_fld) : V := .tup [.agg [.int .i64 sk,.imm .vt p,.imm .vt r,.imm .fld g],.int .i64 0]
theorem map_succ {g : List El_fld} {j : Nat} {x : El_fld} (h : g[j]? = some x) : (g.take (j + 1)).map uqF = (g.take j).map uqF ++ [uqF x] := by rw [List.take_add_one,h]; simp
theorem c_struct0 (G : Gd c.l fs f h m C op) (_o x y n : Int) (ty : List El_vt) (hx : U32 x) (sk : Int) (p r : List El_vt) (g : List El_fld) (hgl : g.length ≤ 1048576)
    (hc : ∀ C',SpecD S 119 [.ptr 6 0,.int .u32 x,.int .i64 2] (ckK c ⟨64256,x,y,n,ty⟩ lo se re m C' op (fs ++ [f])) (cmpV sk p r g) (ckK c ⟨64256,x,y,n,ty⟩ lo se re m C' op (fs ++ [f]))) :
    Spec S 71 [.ptr 6 0] (ckK c ⟨64256,x,y,n,ty⟩ lo se re m C op (fs ++ [f])) (okK c ⟨64256,x,y,n,ty⟩ lo se re (fs ++ [f]) (.int .i64 (swapL c.l h f.dead (op.take m) (g.map uqF) [⟨5,false,x⟩]).1) (swapL c.l h f.dead (op.take m) (g.map uqF) [⟨5,false,x⟩]).2) := by
 have hlm : (g.map uqF).length = g.length := by simp
 have hp := c_swpOO (i := ⟨64256,x,y,n,ty⟩) (lo := lo) (se := se) (re := re) G [⟨5,false,x⟩] (g.map uqF) 1 g.length .full .whole (by simp) (by simp) (by omega) (by simp);rw [show (g.map uqF).take g.length = g.map uqF by rw [← hlm,List.take_length]] at hp
 change Spec S _ _ _ (swR _ _ _ _ _ _ (swapL c.l h f.dead (op.take m) (g.map uqF) [⟨5,false,x⟩]) _) at hp
 generalize fs ++ [f] = fr at *;generalize swapL c.l h f.dead (op.take m) (g.map uqF) [⟨5,false,x⟩] = P at *;obtain ⟨e,o'⟩ := P;have hC := G.hC;clear G;have hsf := fun C' => c_self (c := c) (i := ⟨64256,x,y,n,ty⟩) (lo := lo) (se := se) (re := re) (op := op) (fr := fr) (m := m) (C := C') false hx;simp only
 cases C with
 | unk => exact absurd rfl hC
 | full =>
  have hcc := hc .full;have hss := hsf .full;refine specE ok sh71 rfl ?_;(conv=>whnf);refine cQ [0,1,2,3,4,5,6] hcc ?_;(conv=>whnf);try (refine ⟨by trivial,?_⟩;conv=>whnf)
  try (refine ⟨by trivial,?_⟩;conv=>whnf)
  refine loop_of [.slot 5 .vt] [0,1,2,3,4,5,6,8] (fun vs H => ∃ j : Nat,j ≤ g.length ∧ vs = snV g j j ∧ H = ckK c ⟨64256,x,y,n,ty⟩ lo se re m .full op fr ++ [.row .vt ((g.take j).map uqF)])
   (fun vs _ => match vs with | [_,_,_,_,.int _ j] => g.length - j.toNat | _ => 0) (by rfl) (by rfl) (by rfl) (by rfl) ⟨0,Nat.zero_le _,rfl,rfl⟩ ?_
  rintro vs H1 ⟨j,hj,rfl,rfl⟩;(conv=>whnf);cases hd : decide ((j : Int) < g.length)
  · (conv=>whnf);have := of_decide_eq_false hd;obtain rfl : j = g.length := by omega
    rw [List.take_length];refine cQ [0,1,2,3,4,5,6] hss ?_;(conv=>whnf);try (refine ⟨by trivial,?_⟩;conv=>whnf)
    refine rQ [0,1,2,3,4,5,6,8,7] hp ?_;rintro r H' ⟨rfl,m2,C2,op2,hm2',hC2,ho2,rfl⟩;cases C2;all_goals try exact absurd rfl hC2
    all_goals
     (conv=>whnf);exact eQ [0,1,2,3,4,5,6,9] ⟨rfl,m2,_,op2,hm2',hC2,ho2,rfl⟩
  · (conv=>whnf);have hlt := of_decide_eq_true hd;have hw : IntKind.i64.wrap ((j : Int) + 1) = ((j + 1 : Nat) : Int) := wrap_i64 (by omega) (by omega);have hx := getD_at (show j < g.length by omega) (S.zero .fld);refine ⟨rfl,by omega,by omega,?_⟩;(conv=>whnf);refine ⟨by omega,(by decide : 0 + 4 ≤ 4),?_⟩;rw [show g.getD (Int.toNat (j : Int)) (S.zero .fld) = g.getD j (S.zero .fld) by rw [Int.toNat_natCast]];generalize g.getD j (S.zero .fld) = z at hx;have hu := c_Unpack (tyF z);have hms := map_succ hx;have hml : ((g.take j).map uqF).length = j := by simp; omega
    (conv=>whnf);refine cQ [] hu ?_;(conv=>whnf);refine ⟨rfl,by simp,?_⟩;(conv=>whnf);refine ⟨rfl,by show 0 + j ≤ ((g.take j).map uqF).length; omega,fits_big (by show j + 1 ≤ _; omega) (by decide),rfl,?_⟩;(conv=>whnf);try (refine ⟨by trivial,?_⟩;conv=>whnf)
    refine ⟨[0,1,2,3,4,5,6,10],[],relo_of [0,1,2,3,4,5,6,10] (by rfl) (by rfl),?_⟩;refine ⟨⟨j + 1,by omega,?_,?_⟩,?_⟩
    · show [AV.ptr 6 0,.own .vt 7 0 (j + 1) .whole,.imm .fld g,.int .i64 g.length,.int .i64 (IntKind.i64.wrap ((j : Int) + 1))] = snV g ((j + 1 : Nat) : Int) (j + 1);rw [hw];rfl
    · rw [hms]
      have e4 : ((g.take j).map uqF).take j = (g.take j).map uqF := by
       conv => lhs; rw [← hml,List.map_take]
       simp [List.take_take]
      conv => rhs; rw [← e4]
      rfl
    · show g.length - (IntKind.i64.wrap ((j : Int) + 1)).toNat < g.length - (j : Int).toNat;rw [hw]; omega
 | whole =>
  have hcc := hc .whole;have hss := hsf .whole;refine specE ok sh71 rfl ?_;(conv=>whnf);refine cQ [0,1,2,3,4,5,6] hcc ?_;(conv=>whnf);try (refine ⟨by trivial,?_⟩;conv=>whnf)
  try (refine ⟨by trivial,?_⟩;conv=>whnf)
  refine loop_of [.slot 5 .vt] [0,1,2,3,4,5,6,8] (fun vs H => ∃ j : Nat,j ≤ g.length ∧ vs = snV g j j ∧ H = ckK c ⟨64256,x,y,n,ty⟩ lo se re m .whole op fr ++ [.row .vt ((g.take j).map uqF)])
   (fun vs _ => match vs with | [_,_,_,_,.int _ j] => g.length - j.toNat | _ => 0) (by rfl) (by rfl) (by rfl) (by rfl) ⟨0,Nat.zero_le _,rfl,rfl⟩ ?_
  rintro vs H1 ⟨j,hj,rfl,rfl⟩;(conv=>whnf);cases hd : decide ((j : Int) < g.length)
  · (conv=>whnf);have := of_decide_eq_false hd;obtain rfl : j = g.length := by omega
    rw [List.take_length];refine cQ [0,1,2,3,4,5,6] hss ?_;(conv=>whnf);try (refine ⟨by trivial,?_⟩;conv=>whnf)
    refine rQ [0,1,2,3,4,5,6,8,7] hp ?_;rintro r H' ⟨rfl,m2,C2,op2,hm2',hC2,ho2,rfl⟩;cases C2;all_goals try exact absurd rfl hC2
    all_goals
     (conv=>whnf);exact eQ [0,1,2,3,4,5,6,9] ⟨rfl,m2,_,op2,hm2',hC2,ho2,rfl⟩
  · (conv=>whnf);have hlt := of_decide_eq_true hd;have hw : IntKind.i64.wrap ((j : Int) + 1) = ((j + 1 : Nat) : Int) := wrap_i64 (by omega) (by omega);have hx := getD_at (show j < g.length by omega) (S.zero .fld);refine ⟨rfl,by omega,by omega,?_⟩;(conv=>whnf);refine ⟨by omega,(by decide : 0 + 4 ≤ 4),?_⟩;rw [show g.getD (Int.toNat (j : Int)) (S.zero .fld) = g.getD j (S.zero .fld) by rw [Int.toNat_natCast]];generalize g.getD j (S.zero .fld) = z at hx;have hu := c_Unpack (tyF z);have hms := map_succ hx;have hml : ((g.take j).map uqF).length = j := by simp; omega
    (conv=>whnf);refine cQ [] hu ?_;(conv=>whnf);refine ⟨rfl,by simp,?_⟩;(conv=>whnf);refine ⟨rfl,by show 0 + j ≤ ((g.take j).map uqF).length; omega,fits_big (by show j + 1 ≤ _; omega) (by decide),rfl,?_⟩;(conv=>whnf);try (refine ⟨by trivial,?_⟩;conv=>whnf)
    refine ⟨[0,1,2,3,4,5,6,10],[],relo_of [0,1,2,3,4,5,6,10] (by rfl) (by rfl),?_⟩;refine ⟨⟨j + 1,by omega,?_,?_⟩,?_⟩
    · show [AV.ptr 6 0,.own .vt 7 0 (j + 1) .whole,.imm .fld g,.int .i64 g.length,.int .i64 (IntKind.i64.wrap ((j : Int) + 1))] = snV g ((j + 1 : Nat) : Int) (j + 1);rw [hw];rfl
    · rw [hms]
      have e4 : ((g.take j).map uqF).take j = (g.take j).map uqF := by
       conv => lhs; rw [← hml,List.map_take]
       simp [List.take_take]
      conv => rhs; rw [← e4]
      rfl
    · show g.length - (IntKind.i64.wrap ((j : Int) + 1)).toNat < g.length - (j : Int).toNat;rw [hw]; omega
theorem c_struct1 (G : Gd c.l fs f h m C op) (x y n : Int) (ty : List El_vt) (hx : U32 x) (sk : Int) (p r : List El_vt) (g : List El_fld) (hgl : g.length ≤ 1048576)
    (hc : ∀ C',SpecD S 119 [.ptr 6 0,.int .u32 x,.int .i64 2] (ckK c ⟨64257,x,y,n,ty⟩ lo se re m C' op (fs ++ [f])) (cmpV sk p r g) (ckK c ⟨64257,x,y,n,ty⟩ lo se re m C' op (fs ++ [f]))) :
    Spec S 71 [.ptr 6 0] (ckK c ⟨64257,x,y,n,ty⟩ lo se re m C op (fs ++ [f])) (okK c ⟨64257,x,y,n,ty⟩ lo se re (fs ++ [f]) (.int .i64 (if g.all (fun z => dfl (tyF z)) = true then 0 else 163)) (if g.all (fun z => dfl (tyF z)) = true then op.take m ++ [⟨5,false,x⟩] else op.take m)) := by
 have hf0 : 0 < (fs ++ [f]).length := by simp
 have hpu := fun v => c_Push (l := c.l) (lo := lo) (se := se) (re := re) (op := op) (fr := fs ++ [f]) (m := m) (C := C) G.hC hf0 G.hm G.hm2 v;refine okK_of rfl (fun _ _ => rfl) ?_;generalize fs ++ [f] = fr at *;have hC := G.hC;have hm := G.hm;clear G;have hsf := fun C' => c_self (c := c) (i := ⟨64257,x,y,n,ty⟩) (lo := lo) (se := se) (re := re) (op := op) (fr := fr) (m := m) (C := C') false hx;have hi : g.all (fun z => dfl (tyF z)) = (g.drop 0).all (fun z => dfl (tyF z)) := rfl;generalize g.all (fun z => dfl (tyF z)) = B at hi ⊢
 cases C with
 | unk => exact absurd rfl hC
 | full =>
  have hcc := hc .full;have hss := hsf .full;refine specE ok sh71 rfl ?_;(conv=>whnf);refine cQ [0,1,2,3,4,5,6] hcc ?_;(conv=>whnf);try (refine ⟨by trivial,?_⟩;conv=>whnf)
  try (refine ⟨by trivial,?_⟩;conv=>whnf)
  refine loop_of [] [0,1,2,3,4,5,6] (fun vs H => ∃ j : Nat,j ≤ g.length ∧ B = (g.drop j).all (fun z => dfl (tyF z)) ∧ vs = sdV g j ∧ H = ckK c ⟨64257,x,y,n,ty⟩ lo se re m .full op fr)
   (fun vs _ => match vs with | [_,_,_,.int _ j] => g.length - j.toNat | _ => 0) (by rfl) (by rfl) (by rfl) (by rfl) ⟨0,Nat.zero_le _,hi,rfl,rfl⟩ ?_
  rintro vs H1 ⟨j,hj,hB,rfl,rfl⟩;(conv=>whnf);cases hd : decide ((j : Int) < g.length)
  · (conv=>whnf);have := of_decide_eq_false hd;obtain rfl : j = g.length := by omega
    rw [List.drop_length] at hB;have hB2 : B = true := hB;subst hB2;refine cQ [0,1,2,3,4,5,6] hss ?_;(conv=>whnf);try (refine ⟨by trivial,?_⟩;conv=>whnf)
    refine rQ [0,1,2,3,4,5] (hpu _) ?_;rintro r H' ⟨rfl,m2,C2,op2,hm2',hC2,ho2,rfl⟩;cases C2;all_goals try exact absurd rfl hC2
    all_goals
     (conv=>whnf);exact eQ [0,1,2,3,4,5,6,7] ⟨rfl,m2,_,op2,hm2',hC2,ho2,.inr ⟨_,rfl⟩⟩
  · (conv=>whnf);have hlt := of_decide_eq_true hd;have hw : IntKind.i64.wrap ((j : Int) + 1) = ((j + 1 : Nat) : Int) := wrap_i64 (by omega) (by omega);have hx := getD_at (show j < g.length by omega) (S.zero .fld);refine ⟨rfl,by omega,by omega,?_⟩;(conv=>whnf);refine ⟨by omega,(by decide : 0 + 4 ≤ 4),?_⟩;rw [show g.getD (Int.toNat (j : Int)) (S.zero .fld) = g.getD j (S.zero .fld) by rw [Int.toNat_natCast]];generalize g.getD j (S.zero .fld) = z at hx;have hu := c_dflT (tyF z)
    have hB3 : B = (dfl (tyF z) && (g.drop (j + 1)).all (fun z => dfl (tyF z))) := by
     rw [hB,List.drop_eq_getElem_cons (show j < g.length by omega),(List.getElem?_eq_some_iff.1 hx).2];rfl
    generalize dfl (tyF z) = b at hu hB3;(conv=>whnf);refine cQ [] hu ?_;(conv=>whnf);cases b
    · (conv=>whnf);have hB4 : B = false := hB3;subst hB4;exact eQ [0,1,2,3,4,5,6] ⟨rfl,m,_,op,hm,hC,rfl,.inl rfl⟩
    · (conv=>whnf);refine ⟨[0,1,2,3,4,5,6],[],relo_of [0,1,2,3,4,5,6] (by rfl) (by rfl),?_⟩;refine ⟨⟨j + 1,by omega,hB3,congrArg (sdV g) hw,rfl⟩,?_⟩;show g.length - (IntKind.i64.wrap ((j : Int) + 1)).toNat < g.length - (j : Int).toNat;rw [hw]; omega
 | whole =>
  have hcc := hc .whole;have hss := hsf .whole;refine specE ok sh71 rfl ?_;(conv=>whnf);refine cQ [0,1,2,3,4,5,6] hcc ?_;(conv=>whnf);try (refine ⟨by trivial,?_⟩;conv=>whnf)
  try (refine ⟨by trivial,?_⟩;conv=>whnf)
  refine loop_of [] [0,1,2,3,4,5,6] (fun vs H => ∃ j : Nat,j ≤ g.length ∧ B = (g.drop j).all (fun z => dfl (tyF z)) ∧ vs = sdV g j ∧ H = ckK c ⟨64257,x,y,n,ty⟩ lo se re m .whole op fr)
   (fun vs _ => match vs with | [_,_,_,.int _ j] => g.length - j.toNat | _ => 0) (by rfl) (by rfl) (by rfl) (by rfl) ⟨0,Nat.zero_le _,hi,rfl,rfl⟩ ?_
  rintro vs H1 ⟨j,hj,hB,rfl,rfl⟩;(conv=>whnf);cases hd : decide ((j : Int) < g.length)
  · (conv=>whnf);have := of_decide_eq_false hd;obtain rfl : j = g.length := by omega
    rw [List.drop_length] at hB;have hB2 : B = true := hB;subst hB2;refine cQ [0,1,2,3,4,5,6] hss ?_;(conv=>whnf);try (refine ⟨by trivial,?_⟩;conv=>whnf)
    refine rQ [0,1,2,3,4,5] (hpu _) ?_;rintro r H' ⟨rfl,m2,C2,op2,hm2',hC2,ho2,rfl⟩;cases C2;all_goals try exact absurd rfl hC2
    all_goals
     (conv=>whnf);exact eQ [0,1,2,3,4,5,6,7] ⟨rfl,m2,_,op2,hm2',hC2,ho2,.inr ⟨_,rfl⟩⟩
  · (conv=>whnf);have hlt := of_decide_eq_true hd;have hw : IntKind.i64.wrap ((j : Int) + 1) = ((j + 1 : Nat) : Int) := wrap_i64 (by omega) (by omega);have hx := getD_at (show j < g.length by omega) (S.zero .fld);refine ⟨rfl,by omega,by omega,?_⟩;(conv=>whnf);refine ⟨by omega,(by decide : 0 + 4 ≤ 4),?_⟩;rw [show g.getD (Int.toNat (j : Int)) (S.zero .fld) = g.getD j (S.zero .fld) by rw [Int.toNat_natCast]];generalize g.getD j (S.zero .fld) = z at hx;have hu := c_dflT (tyF z)
    have hB3 : B = (dfl (tyF z) && (g.drop (j + 1)).all (fun z => dfl (tyF z))) := by
     rw [hB,List.drop_eq_getElem_cons (show j < g.length by omega),(List.getElem?_eq_some_iff.1 hx).2];rfl
    generalize dfl (tyF z) = b at hu hB3;(conv=>whnf);refine cQ [] hu ?_;(conv=>whnf);cases b
    · (conv=>whnf);have hB4 : B = false := hB3;subst hB4;exact eQ [0,1,2,3,4,5,6] ⟨rfl,m,_,op,hm,hC,rfl,.inl rfl⟩
    · (conv=>whnf);refine ⟨[0,1,2,3,4,5,6],[],relo_of [0,1,2,3,4,5,6] (by rfl) (by rfl),?_⟩;refine ⟨⟨j + 1,by omega,hB3,congrArg (sdV g) hw,rfl⟩,?_⟩;show g.length - (IntKind.i64.wrap ((j : Int) + 1)).toNat < g.length - (j : Int).toNat;rw [hw]; omega
theorem c_struct2 (G : Gd c.l fs f h m C op) (o x y n : Int) (ty : List El_vt) (hx : U32 x) (hy : U32 y) (ho1 : ¬ o = 64256) (ho2 : ¬ o = 64257) (sk : Int) (p r : List El_vt) (g : List El_fld) (_hgl : g.length ≤ 1048576)
    (hc : ∀ C',SpecD S 119 [.ptr 6 0,.int .u32 x,.int .i64 2] (ckK c ⟨o,x,y,n,ty⟩ lo se re m C' op (fs ++ [f])) (cmpV sk p r g) (ckK c ⟨o,x,y,n,ty⟩ lo se re m C' op (fs ++ [f])))
    (P : Int × List El_vt) (hP : P = if y < g.length then
     (if fldF o (g.getD y.toNat (zeroT .fld)) = 0 then
      (if o = 64261 then swapL c.l h f.dead (op.take m) [⟨5,true,x⟩,uqF (g.getD y.toNat (zeroT .fld))] [] else swapL c.l h f.dead (op.take m) [⟨5,true,x⟩] [uqF (g.getD y.toNat (zeroT .fld))])
     else (fldF o (g.getD y.toNat (zeroT .fld)),op.take m)) else (150,op.take m)) :
    Spec S 71 [.ptr 6 0] (ckK c ⟨o,x,y,n,ty⟩ lo se re m C op (fs ++ [f])) (okK c ⟨o,x,y,n,ty⟩ lo se re (fs ++ [f]) (.int .i64 P.1) P.2) := by
 have e1 : (o == 64256) = false := by simpa using ho1
 have e2 : (o == 64257) = false := by simpa using ho2
 have ht := c_there y g.length hy;have hC := G.hC;have hm := G.hm
 by_cases hlt : y < g.length
 · rw [if_pos hlt] at hP;rw [decide_eq_true hlt] at ht;have hfl := fun C' => c_field (c := c) (i := ⟨o,x,y,n,ty⟩) (lo := lo) (se := se) (re := re) (op := op) (fr := fs ++ [f]) (m := m) (C := C') (g.getD y.toNat (zeroT .fld));have hzz : g.getD y.toNat (S.zero .fld) = g.getD y.toNat (zeroT .fld) := rfl;generalize hz : g.getD y.toNat (zeroT .fld) = z at *;have hu := c_Unpack (tyF z)
   change SpecD S _ _ _ (.agg (enc_vt (uqF z))) _ at hu
   simp only at hfl;generalize fldF o z = fe at hfl hP;have hsf := fun C' => c_self (c := c) (i := ⟨o,x,y,n,ty⟩) (lo := lo) (se := se) (re := re) (op := op) (fr := fs ++ [f]) (m := m) (C := C') true hx
   by_cases hfe : fe = 0
   · subst hfe;rw [if_pos rfl] at hP
     by_cases h61 : o = 64261
     · rw [if_pos h61] at hP;have e3 : (o == 64261) = true := by simpa using h61
       have hp := c_swpNO (i := ⟨o,x,y,n,ty⟩) (lo := lo) (se := se) (re := re) G [⟨5,true,x⟩,uqF z] 2 .full (by simp) (by simp)
       change Spec S _ _ _ (swR _ _ _ _ _ _ (swapL c.l h f.dead (op.take m) [⟨5,true,x⟩,uqF z] []) _) at hp
       rw [← hP] at hp;clear hP;generalize fs ++ [f] = fr at *;obtain ⟨e,o'⟩ := P;clear G;generalize uqF z = u at *;simp only;have hcc := hc C;have hss := hsf C;have hff := hfl C;cases C;all_goals try exact absurd rfl hC
       all_goals
        refine specE ok sh71 rfl ?_;(conv=>whnf);refine cQ [0,1,2,3,4,5,6] hcc ?_;(conv=>whnf);try (refine ⟨by trivial,?_⟩;conv=>whnf)
        try (refine ⟨by trivial,?_⟩;conv=>whnf)
        simp only [e1];(conv=>whnf);simp only [e2];(conv=>whnf);refine cQ [] ht ?_;(conv=>whnf);refine ⟨rfl,hy.1,hlt,?_⟩;(conv=>whnf);refine ⟨by have := hy.1; show y.toNat < g.length; omega,(by decide : 0 + 4 ≤ 4),?_⟩;rw [hzz];(conv=>whnf);try (refine ⟨by trivial,?_⟩;conv=>whnf)
        try (refine ⟨by trivial,?_⟩;conv=>whnf)
        refine cQ [0,1,2,3,4,5,6] hff ?_;(conv=>whnf);refine cQ [] hu ?_;(conv=>whnf);try (refine ⟨by trivial,?_⟩;conv=>whnf)
        try (refine ⟨by trivial,?_⟩;conv=>whnf)
        simp only [e3];(conv=>whnf);refine cQ [0,1,2,3,4,5,6] hss ?_;(conv=>whnf);try (refine ⟨by trivial,?_⟩;conv=>whnf)
        try (refine ⟨by trivial,?_⟩;conv=>whnf)
        refine rQ [0,1,2,3,4,5,6,10] hp ?_;rintro r H' ⟨rfl,m2,C2,op2,hm2',hC2,ho2,rfl⟩;cases C2;all_goals try exact absurd rfl hC2
        all_goals
         (conv=>whnf);exact eQ [0,1,2,3,4,5,6,11] ⟨rfl,m2,_,op2,hm2',hC2,ho2,rfl⟩
     · rw [if_neg h61] at hP;have e3 : (o == 64261) = false := by simpa using h61
       have hp := c_swpOO (i := ⟨o,x,y,n,ty⟩) (lo := lo) (se := se) (re := re) G [uqF z] [⟨5,true,x⟩] 1 1 .full .full (by simp) (by simp) (by simp) (by simp)
       change Spec S _ _ _ (swR _ _ _ _ _ _ (swapL c.l h f.dead (op.take m) [⟨5,true,x⟩] [uqF z]) _) at hp
       rw [← hP] at hp;clear hP;generalize fs ++ [f] = fr at *;obtain ⟨e,o'⟩ := P;clear G;generalize uqF z = u at *;simp only;have hcc := hc C;have hss := hsf C;have hff := hfl C;cases C;all_goals try exact absurd rfl hC
       all_goals
        refine specE ok sh71 rfl ?_;(conv=>whnf);refine cQ [0,1,2,3,4,5,6] hcc ?_;(conv=>whnf);try (refine ⟨by trivial,?_⟩;conv=>whnf)
        try (refine ⟨by trivial,?_⟩;conv=>whnf)
        simp only [e1];(conv=>whnf);simp only [e2];(conv=>whnf);refine cQ [] ht ?_;(conv=>whnf);refine ⟨rfl,hy.1,hlt,?_⟩;(conv=>whnf);refine ⟨by have := hy.1; show y.toNat < g.length; omega,(by decide : 0 + 4 ≤ 4),?_⟩;rw [hzz];(conv=>whnf);try (refine ⟨by trivial,?_⟩;conv=>whnf)
        try (refine ⟨by trivial,?_⟩;conv=>whnf)
        refine cQ [0,1,2,3,4,5,6] hff ?_;(conv=>whnf);refine cQ [] hu ?_;(conv=>whnf);try (refine ⟨by trivial,?_⟩;conv=>whnf)
        try (refine ⟨by trivial,?_⟩;conv=>whnf)
        simp only [e3];(conv=>whnf);refine ⟨?_,?_⟩
        · (conv=>whnf);try (refine ⟨by trivial,?_⟩;conv=>whnf)
          refine cQ [0,1,2,3,4,5,6] hss ?_;(conv=>whnf);try (refine ⟨by trivial,?_⟩;conv=>whnf)
          try (refine ⟨by trivial,?_⟩;conv=>whnf)
          refine rQ [0,1,2,3,4,5,6,10,11] hp ?_;rintro r H' ⟨rfl,m2,C2,op2,hm2',hC2,ho2,rfl⟩;cases C2;all_goals try exact absurd rfl hC2
          all_goals
           (conv=>whnf);exact eQ [0,1,2,3,4,5,6,12] ⟨rfl,m2,_,op2,hm2',hC2,ho2,rfl⟩
        · (conv=>whnf);refine cQ [0,1,2,3,4,5,6] hss ?_;(conv=>whnf);try (refine ⟨by trivial,?_⟩;conv=>whnf)
          refine ⟨?_,?_⟩
          · (conv=>whnf);try (refine ⟨by trivial,?_⟩;conv=>whnf)
            try (refine ⟨by trivial,?_⟩;conv=>whnf)
            refine rQ [0,1,2,3,4,5,6,10,11] hp ?_;rintro r H' ⟨rfl,m2,C2,op2,hm2',hC2,ho2,rfl⟩;cases C2;all_goals try exact absurd rfl hC2
            all_goals
             (conv=>whnf);exact eQ [0,1,2,3,4,5,6,12] ⟨rfl,m2,_,op2,hm2',hC2,ho2,rfl⟩
          · (conv=>whnf);try (refine ⟨by trivial,?_⟩;conv=>whnf)
            try (refine ⟨by trivial,?_⟩;conv=>whnf)
            refine rQ [0,1,2,3,4,5,6,11,10] hp ?_;rintro r H' ⟨rfl,m2,C2,op2,hm2',hC2,ho2,rfl⟩;cases C2;all_goals try exact absurd rfl hC2
            all_goals
             (conv=>whnf);exact eQ [0,1,2,3,4,5,6,12] ⟨rfl,m2,_,op2,hm2',hC2,ho2,rfl⟩
   · rw [if_neg hfe] at hP;subst hP;have hfe2 : (fe == 0) = false := by simpa using hfe
     refine okK_of rfl (fun _ _ => rfl) ?_;generalize fs ++ [f] = fr at *;clear G;simp only;have hcc := hc C;have hff := hfl C;cases C;all_goals try exact absurd rfl hC
     all_goals
      refine specE ok sh71 rfl ?_;(conv=>whnf);refine cQ [0,1,2,3,4,5,6] hcc ?_;(conv=>whnf);try (refine ⟨by trivial,?_⟩;conv=>whnf)
      try (refine ⟨by trivial,?_⟩;conv=>whnf)
      simp only [e1];(conv=>whnf);simp only [e2];(conv=>whnf);refine cQ [] ht ?_;(conv=>whnf);refine ⟨rfl,hy.1,hlt,?_⟩;(conv=>whnf);refine ⟨by have := hy.1; show y.toNat < g.length; omega,(by decide : 0 + 4 ≤ 4),?_⟩;rw [hzz];(conv=>whnf);try (refine ⟨by trivial,?_⟩;conv=>whnf)
      try (refine ⟨by trivial,?_⟩;conv=>whnf)
      refine cQ [0,1,2,3,4,5,6] hff ?_;(conv=>whnf);simp only [bne,hfe2];(conv=>whnf);exact eQ [0,1,2,3,4,5,6] ⟨rfl,m,_,op,hm,hC,rfl,.inl rfl⟩
 · rw [if_neg hlt] at hP;rw [decide_eq_false hlt] at ht;subst hP;refine okK_of rfl (fun _ _ => rfl) ?_;generalize fs ++ [f] = fr at *;clear G;simp only;have hcc := hc C;cases C;all_goals try exact absurd rfl hC
   all_goals
    refine specE ok sh71 rfl ?_;(conv=>whnf);refine cQ [0,1,2,3,4,5,6] hcc ?_;(conv=>whnf);try (refine ⟨by trivial,?_⟩;conv=>whnf)
    try (refine ⟨by trivial,?_⟩;conv=>whnf)
    simp only [e1];(conv=>whnf);simp only [e2];(conv=>whnf);refine cQ [] ht ?_;(conv=>whnf);exact eQ [0,1,2,3,4,5,6] ⟨rfl,m,_,op,hm,hC,rfl,.inl rfl⟩
end Ck
end Sh
end Go.Proofs.YtomdfaelgcefdaaGreatDoor
namespace Go.Proofs.YtomdfaelgcefdaaGreatDoor
open Go
namespace Sh
namespace Ck
variable {c : Cx} {i : In} {lo : List El_vt} {se : List Bool} {re : List El_vt} {op : List El_vt} {fr fs : List El_frame} {f : El_frame} {h m : Nat} {C : Cp}
theorem c_structE (G : Gd c.l fs f h m C op) (o x y n : Int) (ty : List El_vt) (e : Int) (he : e ≠ 0)
    (hc : ∀ C',SpecD S 119 [.ptr 6 0,.int .u32 x,.int .i64 2] (ckK c ⟨o,x,y,n,ty⟩ lo se re m C' op (fs ++ [f])) (.tup [.agg [.int .i64 0,.nils,.nils,.nils],.int .i64 e]) (ckK c ⟨o,x,y,n,ty⟩ lo se re m C' op (fs ++ [f]))) :
    Spec S 71 [.ptr 6 0] (ckK c ⟨o,x,y,n,ty⟩ lo se re m C op (fs ++ [f])) (okK c ⟨o,x,y,n,ty⟩ lo se re (fs ++ [f]) (.int .i64 e) (op.take m)) := by
 have hC := G.hC;have hm := G.hm;have he2 : (e == 0) = false := by simpa using he
 refine okK_of rfl (fun _ _ => rfl) ?_;generalize fs ++ [f] = fr at *;clear G;have hcc := hc C;cases C;all_goals try exact absurd rfl hC
 all_goals
  refine specE ok sh71 rfl ?_;(conv=>whnf);refine cQ [0,1,2,3,4,5,6] hcc ?_;(conv=>whnf);try (refine ⟨by trivial,?_⟩;conv=>whnf)
  try (refine ⟨by trivial,?_⟩;conv=>whnf)
  simp only [bne,he2];(conv=>whnf);exact eQ [0,1,2,3,4,5,6] ⟨rfl,m,_,op,hm,hC,rfl,.inl rfl⟩
theorem c_structs (G : Gd c.l fs f h m C op) (o x y n : Int) (ty : List El_vt) (hx : U32 x) (hy : U32 y) :
    Spec S 71 [.ptr 6 0] (ckK c ⟨o,x,y,n,ty⟩ lo se re m C op (fs ++ [f])) (okK c ⟨o,x,y,n,ty⟩ lo se re (fs ++ [f]) (.int .i64 (structF c ⟨o,x,y,n,ty⟩ h f.dead (op.take m)).1) (structF c ⟨o,x,y,n,ty⟩ h f.dead (op.take m)).2) := by
 have hcm := fun C' => c_comp (c := c) (i := ⟨o,x,y,n,ty⟩) (lo := lo) (se := se) (re := re) (op := op) (fr := fs ++ [f]) (m := m) (C := C') G.hl G.hg x 2 hx;unfold structF;simp only
 rcases cmpF_cases G.hg x 2 with ⟨e,he,hq⟩ | ⟨s,hs,hq,_⟩
 · rw [hq] at hcm ⊢;simp only [if_neg he];exact c_structE G o x y n ty e he hcm
 · rw [hq] at hcm ⊢;obtain ⟨fi,sa,sk,sp,sr,sf⟩ := s;obtain ⟨⟨a,ha0,hal,hag⟩,hk,⟨p,hp0,hpl,hpg⟩,⟨r,hr0,hrl,hrg⟩,⟨g,hf0,hfl,hfg⟩⟩ := hs;simp only at ha0 hk hp0 hr0 hf0;subst ha0 hp0 hr0 hf0;simp only [if_true,Option.getD_some]
   by_cases h0 : o = 64256
   · subst h0;simp only [if_true];exact c_struct0 G 64256 x y n ty hx sk p r g hfl hcm
   · by_cases h1 : o = 64257
     · subst h1;rw [if_neg (by decide),if_pos rfl];have h := c_struct1 G x y n ty hx sk p r g hfl hcm
       by_cases hb : g.all (fun z => dfl (tyF z)) = true
       · rw [if_pos hb]; rw [if_pos hb,if_pos hb] at h; exact h
       · rw [if_neg hb]; rw [if_neg hb,if_neg hb] at h; exact h
     · rw [if_neg h0,if_neg h1];exact c_struct2 G o x y n ty hx hy h0 h1 sk p r g hfl hcm _ rfl
theorem c_segment (hl : c.l.length ≤ 1048576) (hg : ∀ g ∈ c.l,good_grp 1048576 g) (hy : U32 i.y) (g : El_fld) : SpecD S 124 [.ptr 6 0,.agg (enc_fld g)] (ckK c i lo se re m C op fr) (.int .i64 (segF c i g)) (ckK c i lo se re m C op fr) := by
 unfold segF;obtain ⟨o,x,y,n,ty⟩ := i;obtain ⟨gn,gu,gh,gm⟩ := g;have t1 := c_there y c.da hy;have t2 := c_there y c.el.length hy;have hy0 : 0 ≤ y := hy.1;have hv := c_Val c.l hl hg (c.el.getD y.toNat zvt) ⟨gn,gu,gh⟩;have hz : c.el.getD y.toNat (S.zero .vt) = c.el.getD y.toNat zvt := rfl;generalize c.el.getD y.toNat zvt = z at *;simp only at hv t1 t2 ⊢
 by_cases h1 : o = 64265 ∨ o = 64274
 · rw [if_pos h1]
   have key : ∀ b,(gn == 5) = b → SpecD S 124 [.ptr 6 0,.agg (enc_fld ⟨gn,gu,gh,gm⟩)] (ckK c ⟨o,x,y,n,ty⟩ lo se re m C op fr) (.int .i64 (if gn = 5 then 165 else if y < c.da then 0 else 150)) (ckK c ⟨o,x,y,n,ty⟩ lo se re m C op fr) := by
    intro b hb;cases b
    · have hb' : ¬ gn = 5 := by simpa using hb
      rw [if_neg hb']
      by_cases hlt : y < c.da
      · rw [if_pos hlt];rw [decide_eq_true hlt] at t1
        rcases h1 with rfl | rfl
        all_goals
         cases C
         all_goals
          refine specE ok sh124 rfl ?_;(conv=>whnf);simp only [hb];(conv=>whnf);refine cQ [] t1 ?_;(conv=>whnf);exact eQ [0,1,2,3,4,5,6] (by exact ⟨rfl,rfl⟩)
      · rw [if_neg hlt];rw [decide_eq_false hlt] at t1
        rcases h1 with rfl | rfl
        all_goals
         cases C
         all_goals
          refine specE ok sh124 rfl ?_;(conv=>whnf);simp only [hb];(conv=>whnf);refine cQ [] t1 ?_;(conv=>whnf);exact eQ [0,1,2,3,4,5,6] (by exact ⟨rfl,rfl⟩)
    · have hb' : gn = 5 := by simpa using hb
      rw [if_pos hb']
      rcases h1 with rfl | rfl
      all_goals
       cases C
       all_goals
        refine specE ok sh124 rfl ?_;(conv=>whnf);simp only [hb];(conv=>whnf);exact eQ [0,1,2,3,4,5,6] (by exact ⟨rfl,rfl⟩)
   exact key _ rfl
 · rw [if_neg h1]
   by_cases h2 : o = 64266 ∨ o = 64275
   · rw [if_pos h2]
     by_cases hlt : y < c.el.length
     · rw [if_pos hlt];rw [decide_eq_true hlt] at t2;generalize valB c.l z ⟨gn,gu,gh⟩ = b at *;cases b
       all_goals
        rcases h2 with rfl | rfl
        all_goals
         cases C
         all_goals
          refine specE ok sh124 rfl ?_;(conv=>whnf);refine cQ [] t2 ?_;(conv=>whnf);refine ⟨rfl,hy0,hlt,?_⟩;(conv=>whnf);refine ⟨by show y.toNat < c.el.length; omega,(by decide : 0 + 3 ≤ 3),?_⟩;rw [hz];(conv=>whnf);refine cQ [] hv ?_;(conv=>whnf);exact eQ [0,1,2,3,4,5,6] (by exact ⟨rfl,rfl⟩)
     · rw [if_neg hlt];rw [decide_eq_false hlt] at t2
       rcases h2 with rfl | rfl
       all_goals
        cases C
        all_goals
         refine specE ok sh124 rfl ?_;(conv=>whnf);refine cQ [] t2 ?_;(conv=>whnf);exact eQ [0,1,2,3,4,5,6] (by exact ⟨rfl,rfl⟩)
   · rw [if_neg h2];have e1 : (o == 64265) = false := by simpa using fun h => h1 (.inl h)
     have e2 : (o == 64274) = false := by simpa using fun h => h1 (.inr h)
     have e3 : (o == 64266) = false := by simpa using fun h => h2 (.inl h)
     have e4 : (o == 64275) = false := by simpa using fun h => h2 (.inr h)
     cases C
     all_goals
      refine specE ok sh124 rfl ?_;(conv=>whnf);simp only [e1];(conv=>whnf);simp only [e2];(conv=>whnf);simp only [e3];(conv=>whnf);simp only [e4];(conv=>whnf);exact eQ [0,1,2,3,4,5,6] (by exact ⟨rfl,rfl⟩)
 end Ck
 end Sh
 end Go.Proofs.YtomdfaelgcefdaaGreatDoor
namespace Go.Proofs.YtomdfaelgcefdaaGreatDoor
open Go Go.RowKit
namespace Sh
namespace Ck
theorem c_Mul (x y : Nat) (hx : x < 18446744073709551616) (hy : y < 18446744073709551616) : SpecD S 153 [.int .u64 x,.int .u64 y] [] (.tup [.int .u64 ((x * y / 18446744073709551616 : Nat) : Int),.int .u64 ((x * y % 18446744073709551616 : Nat) : Int)]) [] := spec_still fun E w args _ hs ha => by
 obtain ⟨v0,h0,r0⟩ := ha 0 _ rfl;obtain ⟨v1,h1,r1⟩ := ha 1 _ rfl;cases (show VR Sh.S E w (.int .u64 x) v0 from r0);cases (show VR Sh.S E w (.int .u64 y) v1 from r1)
 obtain rfl : args = #[.int .u64 x,.int .u64 y] := by
  have h2 : args.size = 2 := hs;refine Array.ext (by simp [h2]) fun i hi1 hi2 => ?_;have h : i = 0 ∨ i = 1 := by simp at hi2; omega
  rcases h with rfl | rfl
  · simpa using (Array.getElem?_eq_some_iff.1 h0).2
  · simpa using (Array.getElem?_eq_some_iff.1 h1).2
 refine (Tryz.bits_Mul x y hx hy w).mono ?_;rintro e w' ⟨rfl,rfl⟩;refine ⟨_,rfl,rfl,_,rfl,rfl,fun j u hj => ?_⟩
 match j,hj with
 | 0,hj => cases hj; exact ⟨_,rfl,VR.int _ _⟩
 | 1,hj => cases hj; exact ⟨_,rfl,VR.int _ _⟩
def rpV (n k : Nat) : List V := [.own .vt 1 0 n .whole,.int .i64 k]
theorem c_Repeat (v : El_vt) (n : Nat) (hn : n ≤ 10000) :
    SpecD S 123 [.own .vt 0 0 1 .full,.int .i64 n] [.row .vt [v]] (.own .vt 1 0 n .whole) [.row .vt [v],.row .vt (List.replicate n v)] := by
 have hm := c_Mul 1 n (by decide) (by omega);rw [show 1 * n / 18446744073709551616 = 0 by omega,show 1 * n % 18446744073709551616 = n by omega] at hm;have hw1 : IntKind.u64.wrap ((1 : Nat) : Int) = ((1 : Nat) : Int) := IntWalk.u64_in _ ⟨by omega,by omega⟩;have hw2 : IntKind.u64.wrap (n : Int) = (n : Int) := IntWalk.u64_in _ ⟨by omega,by omega⟩;have hw3 : IntKind.i64.wrap (n : Int) = (n : Int) := wrap_i64 (by omega) (by omega);rw [← hw1,← hw2] at hm;refine specE ok sh123 rfl ?_;(conv=>whnf);refine cQ [] hm ?_;(conv=>whnf);rw [hw2];cases hd : decide ((9223372036854775807 : Int) < n)
 rotate_left
 · have := of_decide_eq_true hd;omega
 (conv=>whnf);rw [hw3];refine ⟨by omega,rfl,fits_big (by show n ≤ _; omega) (by decide),?_⟩;(conv=>whnf);refine ⟨rfl,by simp,?_⟩;rw [Int.toNat_natCast];(conv=>whnf);refine ⟨rfl,by show 0 + n ≤ (List.replicate n (S.zero .vt)).length; simp,?_⟩;conv=>whnf
 refine loop_of [] [0,1] (fun vs H => ∃ k : Nat,k ≤ n ∧ (1 ≤ k ∨ n = 0) ∧ vs = rpV n k ∧ H = [.row .vt [v],.row .vt (List.replicate k v ++ List.replicate (n - k) zvt)])
  (fun vs _ => match vs with | [_,.int _ k] => n - k.toNat | _ => 0) (by rfl) (by rfl) (by rfl) (by rfl) ⟨min 1 n,by omega,by omega,rfl,?_⟩ ?_
 · have e : ([] : List El_vt) ++ ([v] : List El_vt).take n ++ (List.replicate n zvt).drop (0 + min 1 n) = List.replicate (min 1 n) v ++ List.replicate (n - min 1 n) zvt := by
    cases n with
    | zero => simp
    | succ n => rw [show min 1 (n + 1) = 1 by omega]; simp
   rw [← e];rfl
 rintro vs H1 ⟨k,hk,hk1,rfl,rfl⟩;(conv=>whnf);cases hd : decide ((k : Int) < n)
 · (conv=>whnf);have := of_decide_eq_false hd;obtain rfl : k = n := by omega
   rw [Nat.sub_self,List.replicate_zero,List.append_nil];exact eQ [0,1] (by exact ⟨rfl,rfl⟩)
 · (conv=>whnf);have hlt := of_decide_eq_true hd;have hxl : (List.replicate k v ++ List.replicate (n - k) zvt).length = n := by simp; omega
   refine ⟨rfl,by omega,by omega,by omega,rfl,?_⟩;rw [show (0 + Int.toNat (k : Int)) = k by rw [Int.toNat_natCast]; omega,show (Int.toNat (n : Int) - Int.toNat (k : Int)) = n - k by rw [Int.toNat_natCast,Int.toNat_natCast]];(conv=>whnf);refine ⟨by omega,by omega,by omega,?_⟩;rw [show (Int.toNat (k : Int) - Int.toNat 0) = k by rw [Int.toNat_natCast]; rfl,show (0 + Int.toNat 0) = 0 from rfl];(conv=>whnf);refine ⟨rfl,by rw [hxl]; omega,?_⟩;(conv=>whnf);refine ⟨rfl,by show k + (n - k) ≤ (List.replicate k v ++ List.replicate (n - k) zvt).length; rw [hxl]; omega,?_⟩;(conv=>whnf);try (refine ⟨by trivial,?_⟩;conv=>whnf)
   have e0 : ((List.replicate k v ++ List.replicate (n - k) zvt).drop 0).take k = List.replicate k v := by simp
   have hk' : k + min k (n - k) ≤ n := by omega
   have hw : IntKind.i64.wrap ((k : Int) + ((min (((List.replicate k v ++ List.replicate (n - k) zvt).drop 0).take k).length (n - k) : Nat) : Int)) = ((k + min k (n - k) : Nat) : Int) := by
    rw [e0,List.length_replicate,wrap_i64 (by omega) (by omega)];omega
   refine ⟨[0,1],[],relo_of [0,1] (by rfl) (by rfl),?_⟩;refine ⟨⟨k + min k (n - k),hk',by omega,congrArg (fun z : Int => ([AV.own KT.vt 1 0 n .whole,AV.int .i64 z] : List V)) hw,?_⟩,?_⟩
   · have e : (List.replicate k v ++ List.replicate (n - k) zvt).take k ++ (((List.replicate k v ++ List.replicate (n - k) zvt).drop 0).take k).take (n - k) ++ (List.replicate k v ++ List.replicate (n - k) zvt).drop (k + min (((List.replicate k v ++ List.replicate (n - k) zvt).drop 0).take k).length (n - k)) = List.replicate (k + min k (n - k)) v ++ List.replicate (n - (k + min k (n - k))) zvt := by
      rw [e0,List.length_replicate];have e1 : (List.replicate k v ++ List.replicate (n - k) zvt).take k = List.replicate k v := by simp
      have e2 : (List.replicate k v).take (n - k) = List.replicate (min k (n - k)) v := by rw [List.take_replicate,Nat.min_comm]
      have e3 : (List.replicate k v ++ List.replicate (n - k) zvt).drop (k + min k (n - k)) = List.replicate (n - (k + min k (n - k))) zvt := by
       rw [List.drop_append,List.drop_of_length_le (by simp),List.nil_append,List.drop_replicate,List.length_replicate]
       congr 1
       omega
      rw [e1,e2,e3,List.replicate_append_replicate]
     rw [← e];rfl
   · show n - (IntKind.i64.wrap ((k : Int) + ((min (((List.replicate k v ++ List.replicate (n - k) zvt).drop 0).take k).length (n - k) : Nat) : Int))).toNat < n - (k : Int).toNat;rw [hw]; omega
end Ck
end Sh
end Go.Proofs.YtomdfaelgcefdaaGreatDoor
