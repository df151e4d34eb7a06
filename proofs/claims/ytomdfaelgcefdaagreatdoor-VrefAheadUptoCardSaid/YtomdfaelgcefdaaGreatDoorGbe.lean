/- Bg LwA LwB LwC LwD LwE LwG Arg. -/
import Derived.Test.YtomdfaelgcefdaaGreatDoorRows
import Derived.Test.YtomdfaelgcefdaaGreatDoorGbd
set_option maxRecDepth 100000
set_option maxHeartbeats 64000000
namespace Go.Proofs.YtomdfaelgcefdaaGreatDoor
open Go
namespace Sh
namespace Ck
structure Wh where
 c : Cx
 ps : List El_vt
 ls : List El_vt
 rs : List El_vt
 dp : List (Option (List El_vt))
 sk : List El_vt
 dead : Bool
def wC (w : Wh) : List V := [.imm .grp w.c.l,.imm .int w.c.fu,.cell,.cell,.cell,.cell,.imm .vt w.c.el,.int .i64 w.c.da,.imm .bool w.c.rf,.imm .vt w.ps,.imm .vt w.ls,.imm .vt w.rs,.imm .lvt w.dp,.imm .vt w.sk,.bool w.dead]
structure Gw (w : Wh) : Prop where
 hl : w.c.l.length ≤ 1048576
 hg : ∀ g ∈ w.c.l,good_grp 1048576 g
 hp : w.ps.length ≤ 1048576
 hls : w.ls.length ≤ 1048576
 hr : w.rs.length ≤ 1048576
 hdl : w.dp.length ≤ 1048576
 hd : ∀ b ∈ w.dp,∃ q,b = some q ∧ q.length ≤ 1048576
 hk : w.sk.length ≤ 2097152
def loW (w : Wh) : List El_vt := w.ps ++ w.ls
def seW (w : Wh) : List Bool := nwSe w.ps.length (loW w) (loW w).length
def frN (w : Wh) (j : Nat) : List El_frame := mkF 2 0 none w.rs (seW w) false :: (w.dp.take j).map fun b => mkF 2 0 (some []) (b.getD []) (seW w) false
def deadL (fr : List El_frame) : List El_frame := fr.dropLast ++ (match fr.getLast? with | some f => [deadF f] | none => [])
def frW (w : Wh) : List El_frame := if w.dead = true then deadL (frN w w.dp.length) else frN w w.dp.length
theorem frN_last (w : Wh) (j : Nat) : ∃ fs f,frN w j = fs ++ [f] ∧ f.height = 0 ∧ fs.length = (frN w j).length - 1 := by
 have hne : frN w j ≠ [] := by unfold frN; simp
 refine ⟨(frN w j).dropLast,(frN w j).getLast hne,(List.dropLast_concat_getLast hne).symm,?_,by simp⟩
 have hall : ∀ f ∈ frN w j,f.height = 0 := by
  intro f hf;unfold frN at hf
  rcases List.mem_cons.1 hf with rfl | hf
  · rfl
  · obtain ⟨b,_,rfl⟩ := List.mem_map.1 hf;rfl
 exact hall _ (List.getLast_mem hne)
def rkC6 (l : List El_grp) (nl ns : Nat) (o : List El_vt) (O F : V) : AO KT ElT := .cells [.imm .grp l,.own .vt 7 0 nl .whole,.own .bool 8 0 ns .whole,O,F,.imm .vt o]
def bgH (w : Wh) (fr : List El_frame) (lo : List El_vt) (se : List Bool) (fr2 : List El_rframe) (D : Cp) : Heap KT ElT :=
 ck w.c.l (loW w) (seW w) w.rs 0 .whole [] fr ++ [rkC6 w.c.l lo.length se.length w.rs (.own .vt 9 0 0 .whole) (.own .rframe 10 0 fr2.length D),.row .vt lo,.row .bool se,.row .vt [],.row .rframe fr2,.cells (wC w)]
def bgV (j : Int) : List V := [.ptr 11 0,.ptr 0 0,.ptr 6 0,.int .i64 j]
theorem c_begin0 (w : Wh) (G : Gw w) : Spec S 27 [.agg (wC w)] [] (fun r H => r = .tup [.ptr 0 0,.cell] ∧ ∃ C op,w.sk.length ≤ op.length ∧ C ≠ .unk ∧ op.take w.sk.length = w.sk ∧ H = ck w.c.l (loW w) (seW w) w.rs w.sk.length C op (frW w)) := by
 obtain ⟨fs,f,hfs0,hfh,hfsl⟩ := frN_last w w.dp.length;unfold frW;obtain ⟨c,ps,ls,rs,dp,sk,dead⟩ := w;simp only at hfs0 hfsl;have kN := c_New c.l ps ls rs G.hl G.hg G.hp G.hls G.hr;have kR := c_rNew c.l ps ls rs G.hp G.hls G.hr;have hlol : (loW ⟨c,ps,ls,rs,dp,sk,dead⟩).length ≤ 2097152 := by have := G.hp; have := G.hls; simp [loW] at *; omega
 have hsel : (seW ⟨c,ps,ls,rs,dp,sk,dead⟩).length ≤ 2097152 := by unfold seW; rw [nwSe_len]; exact hlol
 obtain ⟨hl,hg,hp,hls,hr,hdl,hdd,hk⟩ := G;simp only at hl hg hp hls hr hdl hdd hk kN kR;refine specE ok sh27 rfl ?_;(conv=>whnf);refine cQ [] kN ?_;(conv=>whnf);refine rQ [] kR ?_;rintro r H' ⟨rfl,lo,se,hlo,hse,rfl⟩;conv=>whnf
 refine loop_of [] [1,2,3,4,5,6,7,8,9,10,11,0] (fun vs H => ∃ (j : Nat) (fr2 : List El_rframe) (D : Cp),j ≤ dp.length ∧ D ≠ .unk ∧ fr2.length = j + 1 ∧ (∀ f ∈ fr2,NrF f) ∧ vs = bgV j ∧ H = bgH ⟨c,ps,ls,rs,dp,sk,dead⟩ (frN ⟨c,ps,ls,rs,dp,sk,dead⟩ j) lo se fr2 D)
  (fun vs _ => match vs with | [_,_,_,.int _ j] => dp.length - j.toNat | _ => 0) (by rfl) (by rfl) (by rfl) (by rfl) ⟨0,[⟨2,none,some rs,0,some se,false⟩],.full,Nat.zero_le _,by decide,rfl,?_,rfl,rfl⟩ ?_
 · intro f hf;simp only [List.mem_singleton] at hf;subst hf;exact ⟨⟨rs,rfl⟩,⟨se,rfl⟩,rfl⟩
 rintro vs H1 ⟨j,fr2,D,hj,hD,hf2,hfp,rfl,rfl⟩;have hfl : (frN ⟨c,ps,ls,rs,dp,sk,dead⟩ j).length = j + 1 := by simp [frN]; omega
 cases D with
 | unk => exact absurd rfl hD
 | full =>
  (conv=>whnf);cases hd : decide ((j : Int) < dp.length)
  · (conv=>whnf);have := of_decide_eq_false hd;obtain rfl : j = dp.length := by omega
    have hdead : deadL (fs ++ [f]) = fs ++ [deadF f] := by simp [deadL]
    have hskl : sk.length ≤ 16000000 := by omega
    have kP := c_Pushes (l := c.l) (lo := loW ⟨c,ps,ls,rs,dp,sk,dead⟩) (se := seW ⟨c,ps,ls,rs,dp,sk,dead⟩) (re := rs) (op := []) (fr := frN ⟨c,ps,ls,rs,dp,sk,dead⟩ dp.length) (m := 0) (C := .whole) (by decide) (by omega) (by simp) (by omega) sk hskl;have kQ := c_rPushes (l := c.l) (lo := lo) (se := se) (o := rs) (st := []) (m := 0) (C := .whole) (fr := fr2) (D := .full) ⟨by decide,by decide,by omega,by omega,hr,by simp,by omega,by omega,by omega,hfp⟩ sk hk (by omega);rw [hfs0] at hfl kP ⊢;rw [hdead];refine rQ [0,1,2,3,4,5] kP ?_;rintro r H' ⟨rfl,m2,C2,op2,hm2,hC2,ho2,rfl⟩
    have hml : m2 = sk.length := by
     have := congrArg List.length ho2;simp at this;omega
    subst hml;have ho2 : op2.take sk.length = sk := by simpa using ho2
    have kU := fun C2 => c_Unr (l := c.l) (lo := loW ⟨c,ps,ls,rs,dp,sk,dead⟩) (se := seW ⟨c,ps,ls,rs,dp,sk,dead⟩) (re := rs) (op := op2) (fs := fs) (f := f) (m := sk.length) (C := C2) (h := 0) (by simp at hfl; omega) hfh (Nat.zero_le _);have kP2 := c_Pushes (l := c.l) (lo := loW ⟨c,ps,ls,rs,dp,sk,dead⟩) (se := seW ⟨c,ps,ls,rs,dp,sk,dead⟩) (re := rs) (op := op2) (fr := fs ++ [deadF f]) (m := 0) (C := .full) (by decide) (by simp) (by omega) (by omega) sk hskl;cases C2;all_goals try exact absurd rfl hC2
    all_goals
     (conv=>whnf);refine rQ [6,7,8,9,10] kQ ?_;rintro r H' ⟨rfl,st',C',hC',hst,rfl⟩;have kV := c_rUnr (l := c.l) (lo := lo) (se := se) (o := rs) (st := st') (m := 0 + sk.length) (C := C') (fr := fr2) (D := .full) ⟨hC',by decide,by omega,by omega,hr,hst,by omega,by omega,by omega,hfp⟩;cases C';all_goals try exact absurd rfl hC'
     all_goals
      (conv=>whnf);cases dead
      · (conv=>whnf);exact eQ [0,1,2,3,12,5] ⟨rfl,_,op2,hm2,hC2,ho2,rfl⟩
      · (conv=>whnf);refine cQ [0,1,2,3,12,5] ((kU _)) ?_;(conv=>whnf);refine rQ [6,7,8,13,10] kV ?_;rintro r H' ⟨rfl,fr3,hf3,hfp3,rfl⟩;(conv=>whnf);refine rQ [0,1,2,3,12,5] kP2 ?_;rintro r H' ⟨rfl,m3,C3,op3,hm3,hC3,ho3,rfl⟩
        have hml3 : m3 = sk.length := by
         have := congrArg List.length ho3;simp at this;omega
        subst hml3;have ho3 : op3.take sk.length = sk := by simpa using ho3
        have kQ2 := c_rPushes (l := c.l) (lo := lo) (se := se) (o := rs) (st := []) (m := 0) (C := .whole) (fr := fr3) (D := .whole) ⟨by decide,by decide,by omega,by omega,hr,by simp,by omega,by omega,by omega,hfp3⟩ sk hk (by omega);cases C3;all_goals try exact absurd rfl hC3
        all_goals
         (conv=>whnf);refine rQ [6,7,8,14,15] kQ2 ?_;rintro r H' ⟨rfl,st4,C4,hC4,hst4,rfl⟩;cases C4;all_goals try exact absurd rfl hC4
         all_goals
          (conv=>whnf);exact eQ [0,1,2,3,16,5] ⟨rfl,_,op3,hm3,hC3,ho3,rfl⟩
  · (conv=>whnf);have hlt := of_decide_eq_true hd;have hw : IntKind.i64.wrap ((j : Int) + 1) = ((j + 1 : Nat) : Int) := wrap_i64 (by omega) (by omega);have hx := getD_at (show j < dp.length by omega) (S.zero .lvt);obtain ⟨b,hb,hbl⟩ := hdd _ (List.mem_of_getElem? hx)
    have hfs : frN ⟨c,ps,ls,rs,dp,sk,dead⟩ (j + 1) = frN ⟨c,ps,ls,rs,dp,sk,dead⟩ j ++ [mkF 2 0 (some []) b (seW ⟨c,ps,ls,rs,dp,sk,dead⟩) false] := by
     unfold frN;simp only;rw [List.take_add_one,hx,hb];simp
    have kE := c_Enter (l := c.l) (lo := loW ⟨c,ps,ls,rs,dp,sk,dead⟩) (se := seW ⟨c,ps,ls,rs,dp,sk,dead⟩) (re := rs) (op := []) (fr := frN ⟨c,ps,ls,rs,dp,sk,dead⟩ j) (m := 0) (C := .whole) (by omega) (by omega) 2 b hbl (by omega);have kF := c_rEnter (l := c.l) (lo := lo) (se := se) (o := rs) (st := []) (C := .whole) (fr := fr2) (D := .full) ⟨by decide,by decide,by omega,by omega,hr,by simp,by omega,by omega,by omega,hfp⟩ 2 b hbl (by omega);have hlt2 : ∀ k : Nat,(j : Int).toNat < dp.length := fun _ => by omega
    refine ⟨rfl,by omega,by omega,?_⟩;(conv=>whnf);refine ⟨hlt2 0,by decide,?_⟩;rw [show dp.getD (Int.toNat (j : Int)) (S.zero .lvt) = some b by rw [Int.toNat_natCast,← hb]];(conv=>whnf);refine cQ [0,1,2,3,4,5] kE ?_;(conv=>whnf);refine ⟨rfl,by omega,by omega,?_⟩;(conv=>whnf);refine ⟨hlt2 0,by decide,?_⟩;rw [show dp.getD (Int.toNat (j : Int)) (S.zero .lvt) = some b by rw [Int.toNat_natCast,← hb]];(conv=>whnf);refine cQ [6,7,8,9,10] kF ?_;(conv=>whnf);refine ⟨[0,1,2,3,4,12,6,7,8,9,13,11],[],relo_of [0,1,2,3,4,12,6,7,8,9,13,11] (by rfl) (by rfl),?_⟩;refine ⟨⟨j + 1,fr2 ++ [⟨2,some [],some b,0,some se,false⟩],.whole,by omega,by decide,?_,?_,congrArg bgV hw,?_⟩,?_⟩
    rotate_left 2
    · rw [hfs]; rfl
    · show dp.length - (IntKind.i64.wrap ((j : Int) + 1)).toNat < dp.length - (j : Int).toNat;rw [hw]; omega
    · simp; omega
    · intro f hf
      rcases List.mem_append.1 hf with h | h
      · exact hfp f h
      · simp only [List.mem_singleton] at h; subst h; exact ⟨⟨b,rfl⟩,⟨se,rfl⟩,rfl⟩
 | whole =>
  (conv=>whnf);cases hd : decide ((j : Int) < dp.length)
  · (conv=>whnf);have := of_decide_eq_false hd;obtain rfl : j = dp.length := by omega
    have hdead : deadL (fs ++ [f]) = fs ++ [deadF f] := by simp [deadL]
    have hskl : sk.length ≤ 16000000 := by omega
    have kP := c_Pushes (l := c.l) (lo := loW ⟨c,ps,ls,rs,dp,sk,dead⟩) (se := seW ⟨c,ps,ls,rs,dp,sk,dead⟩) (re := rs) (op := []) (fr := frN ⟨c,ps,ls,rs,dp,sk,dead⟩ dp.length) (m := 0) (C := .whole) (by decide) (by omega) (by simp) (by omega) sk hskl;have kQ := c_rPushes (l := c.l) (lo := lo) (se := se) (o := rs) (st := []) (m := 0) (C := .whole) (fr := fr2) (D := .whole) ⟨by decide,by decide,by omega,by omega,hr,by simp,by omega,by omega,by omega,hfp⟩ sk hk (by omega);rw [hfs0] at hfl kP ⊢;rw [hdead];refine rQ [0,1,2,3,4,5] kP ?_;rintro r H' ⟨rfl,m2,C2,op2,hm2,hC2,ho2,rfl⟩
    have hml : m2 = sk.length := by
     have := congrArg List.length ho2;simp at this;omega
    subst hml;have ho2 : op2.take sk.length = sk := by simpa using ho2
    have kU := fun C2 => c_Unr (l := c.l) (lo := loW ⟨c,ps,ls,rs,dp,sk,dead⟩) (se := seW ⟨c,ps,ls,rs,dp,sk,dead⟩) (re := rs) (op := op2) (fs := fs) (f := f) (m := sk.length) (C := C2) (h := 0) (by simp at hfl; omega) hfh (Nat.zero_le _);have kP2 := c_Pushes (l := c.l) (lo := loW ⟨c,ps,ls,rs,dp,sk,dead⟩) (se := seW ⟨c,ps,ls,rs,dp,sk,dead⟩) (re := rs) (op := op2) (fr := fs ++ [deadF f]) (m := 0) (C := .full) (by decide) (by simp) (by omega) (by omega) sk hskl;cases C2;all_goals try exact absurd rfl hC2
    all_goals
     (conv=>whnf);refine rQ [6,7,8,9,10] kQ ?_;rintro r H' ⟨rfl,st',C',hC',hst,rfl⟩;have kV := c_rUnr (l := c.l) (lo := lo) (se := se) (o := rs) (st := st') (m := 0 + sk.length) (C := C') (fr := fr2) (D := .whole) ⟨hC',by decide,by omega,by omega,hr,hst,by omega,by omega,by omega,hfp⟩;cases C';all_goals try exact absurd rfl hC'
     all_goals
      (conv=>whnf);cases dead
      · (conv=>whnf);exact eQ [0,1,2,3,12,5] ⟨rfl,_,op2,hm2,hC2,ho2,rfl⟩
      · (conv=>whnf);refine cQ [0,1,2,3,12,5] ((kU _)) ?_;(conv=>whnf);refine rQ [6,7,8,13,10] kV ?_;rintro r H' ⟨rfl,fr3,hf3,hfp3,rfl⟩;(conv=>whnf);refine rQ [0,1,2,3,12,5] kP2 ?_;rintro r H' ⟨rfl,m3,C3,op3,hm3,hC3,ho3,rfl⟩
        have hml3 : m3 = sk.length := by
         have := congrArg List.length ho3;simp at this;omega
        subst hml3;have ho3 : op3.take sk.length = sk := by simpa using ho3
        have kQ2 := c_rPushes (l := c.l) (lo := lo) (se := se) (o := rs) (st := []) (m := 0) (C := .whole) (fr := fr3) (D := .whole) ⟨by decide,by decide,by omega,by omega,hr,by simp,by omega,by omega,by omega,hfp3⟩ sk hk (by omega);cases C3;all_goals try exact absurd rfl hC3
        all_goals
         (conv=>whnf);refine rQ [6,7,8,14,15] kQ2 ?_;rintro r H' ⟨rfl,st4,C4,hC4,hst4,rfl⟩;cases C4;all_goals try exact absurd rfl hC4
         all_goals
          (conv=>whnf);exact eQ [0,1,2,3,16,5] ⟨rfl,_,op3,hm3,hC3,ho3,rfl⟩
  · (conv=>whnf);have hlt := of_decide_eq_true hd;have hw : IntKind.i64.wrap ((j : Int) + 1) = ((j + 1 : Nat) : Int) := wrap_i64 (by omega) (by omega);have hx := getD_at (show j < dp.length by omega) (S.zero .lvt);obtain ⟨b,hb,hbl⟩ := hdd _ (List.mem_of_getElem? hx)
    have hfs : frN ⟨c,ps,ls,rs,dp,sk,dead⟩ (j + 1) = frN ⟨c,ps,ls,rs,dp,sk,dead⟩ j ++ [mkF 2 0 (some []) b (seW ⟨c,ps,ls,rs,dp,sk,dead⟩) false] := by
     unfold frN;simp only;rw [List.take_add_one,hx,hb];simp
    have kE := c_Enter (l := c.l) (lo := loW ⟨c,ps,ls,rs,dp,sk,dead⟩) (se := seW ⟨c,ps,ls,rs,dp,sk,dead⟩) (re := rs) (op := []) (fr := frN ⟨c,ps,ls,rs,dp,sk,dead⟩ j) (m := 0) (C := .whole) (by omega) (by omega) 2 b hbl (by omega);have kF := c_rEnter (l := c.l) (lo := lo) (se := se) (o := rs) (st := []) (C := .whole) (fr := fr2) (D := .whole) ⟨by decide,by decide,by omega,by omega,hr,by simp,by omega,by omega,by omega,hfp⟩ 2 b hbl (by omega);have hlt2 : ∀ k : Nat,(j : Int).toNat < dp.length := fun _ => by omega
    refine ⟨rfl,by omega,by omega,?_⟩;(conv=>whnf);refine ⟨hlt2 0,by decide,?_⟩;rw [show dp.getD (Int.toNat (j : Int)) (S.zero .lvt) = some b by rw [Int.toNat_natCast,← hb]];(conv=>whnf);refine cQ [0,1,2,3,4,5] kE ?_;(conv=>whnf);refine ⟨rfl,by omega,by omega,?_⟩;(conv=>whnf);refine ⟨hlt2 0,by decide,?_⟩;rw [show dp.getD (Int.toNat (j : Int)) (S.zero .lvt) = some b by rw [Int.toNat_natCast,← hb]];(conv=>whnf);refine cQ [6,7,8,9,10] kF ?_;(conv=>whnf);refine ⟨[0,1,2,3,4,12,6,7,8,9,13,11],[],relo_of [0,1,2,3,4,12,6,7,8,9,13,11] (by rfl) (by rfl),?_⟩;refine ⟨⟨j + 1,fr2 ++ [⟨2,some [],some b,0,some se,false⟩],.whole,by omega,by decide,?_,?_,congrArg bgV hw,?_⟩,?_⟩
    rotate_left 2
    · rw [hfs]; rfl
    · show dp.length - (IntKind.i64.wrap ((j : Int) + 1)).toNat < dp.length - (j : Int).toNat;rw [hw]; omega
    · simp; omega
    · intro f hf
      rcases List.mem_append.1 hf with h | h
      · exact hfp f h
      · simp only [List.mem_singleton] at h; subst h; exact ⟨⟨b,rfl⟩,⟨se,rfl⟩,rfl⟩
end Ck
end Sh
end Go.Proofs.YtomdfaelgcefdaaGreatDoor
namespace Go.Proofs.YtomdfaelgcefdaaGreatDoor
open Go
namespace Sh
namespace Ck
def hpV (q : List El_vt) (n : Nat) (j : Int) : List V := [.imm .vt q,.own .int 0 0 n .whole,.int .i64 j]
theorem c_heaps (q : List El_vt) (hq : q.length ≤ 1048576) : Spec S 181 [.imm .vt q] [] fun r H => ∃ xs : List Int,xs.length ≤ q.length ∧ r = .own .int 0 0 xs.length .whole ∧ H = [.row .int xs] := by
 refine specE ok sh181 rfl ?_;conv=>whnf
 refine loop_of [.slot 3 .int] [0] (fun vs H => ∃ (j : Nat) (xs : List Int),j ≤ q.length ∧ xs.length ≤ j ∧ vs = hpV q xs.length j ∧ H = [.row .int xs])
  (fun vs _ => match vs with | [_,_,.int _ j] => q.length - j.toNat | _ => 0) (by rfl) (by rfl) (by rfl) (by rfl) ⟨0,[],Nat.zero_le _,Nat.le_refl _,rfl,rfl⟩ ?_
 rintro vs H1 ⟨j,xs,hj,hx,rfl,rfl⟩;(conv=>whnf);cases hd : decide ((j : Int) < q.length)
 · (conv=>whnf);exact eQ [0] ⟨xs,by omega,rfl,rfl⟩
 · (conv=>whnf);have hlt := of_decide_eq_true hd;have hw : IntKind.i64.wrap ((j : Int) + 1) = ((j + 1 : Nat) : Int) := wrap_i64 (by omega) (by omega);have hm : q.length - (IntKind.i64.wrap ((j : Int) + 1)).toNat < q.length - (j : Int).toNat := by rw [hw]; omega
   refine ⟨rfl,by omega,by omega,?_⟩;(conv=>whnf);refine ⟨by rw [Int.toNat_natCast]; omega,by decide,?_⟩;generalize hz : q.getD (Int.toNat (j : Int)) (S.zero .vt) = z;obtain ⟨zn,zu,zh⟩ := z;(conv=>whnf);cases h5 : (zn == 5)
   · (conv=>whnf);refine ⟨[0],[],relo_of [0] (by rfl) (by rfl),?_⟩;exact ⟨⟨j + 1,xs,by omega,by omega,congrArg (hpV q xs.length) hw,rfl⟩,hm⟩
   · (conv=>whnf);refine ⟨rfl,by omega,by omega,?_⟩;(conv=>whnf);refine ⟨by rw [Int.toNat_natCast]; omega,by decide,?_⟩;rw [hz];(conv=>whnf);refine ⟨rfl,by simp,?_⟩;(conv=>whnf);refine ⟨rfl,by show 0 + xs.length ≤ xs.length; omega,fits_big (by show xs.length + 1 ≤ _; omega) (by decide),rfl,?_⟩;(conv=>whnf);refine ⟨[2],[],relo_of [2] (by rfl) (by rfl),?_⟩;refine ⟨⟨j + 1,xs ++ [zh],by omega,by simp; omega,?_,?_⟩,hm⟩
     · show [AV.imm KT.vt q,.own .int 0 0 (xs.length + 1) .whole,.int .i64 (IntKind.i64.wrap ((j : Int) + 1))] = hpV q (xs ++ [zh]).length ((j + 1 : Nat) : Int);rw [hw,show (xs ++ [zh]).length = xs.length + 1 by simp];rfl
     · conv => rhs; rw [← List.take_length (l := xs)]
       rfl
theorem c_heapsO (v : El_vt) : Spec S 181 [.own .vt 0 0 1 .full] [.row .vt [v]] fun r H => ∃ xs : List Int,xs.length ≤ 1 ∧ r = .own .int 1 0 xs.length .whole ∧ H = [.gone,.row .int xs] := by
 refine Spec.relo ok [] [0] (by rfl) ⟨⟨rfl,by simp⟩,trivial⟩ trivial (c_heaps [v] (by simp)) ?_;rintro r H' ⟨xs,h1,rfl,rfl⟩;exact ⟨1,[1,0],rfl,rfl,xs,by simpa using h1,rfl,rfl⟩
def alV (n : Nat) (j : Int) : List V := [.ptr 0 0,.own .int 1 0 n .whole,.int .i64 j]
theorem c_All (s : El_sub) (hs : good_sub 1048576 s) : Spec S 148 [.agg (enc_sub s)] [] fun r H => ∃ xs : List Int,xs.length ≤ 8388608 ∧ r = .own .int 0 0 xs.length .whole ∧ H = [.row .int xs] := by
 obtain ⟨fi,sa,sk,sp,sr,sf⟩ := s;obtain ⟨⟨a,ha0,hal,hag⟩,hk,⟨p,hp0,hpl,hpg⟩,⟨r,hr0,hrl,hrg⟩,⟨f,hf0,hfl,hfg⟩⟩ := hs;simp only at ha0 hk hp0 hr0 hf0;subst ha0 hp0 hr0 hf0;refine specE ok sh148 rfl ?_;(conv=>whnf);refine ⟨fits_big (by show a.length ≤ _; omega) (by decide),?_⟩;(conv=>whnf);refine rQ [] (c_heaps p hpl) ?_;rintro r1 H' ⟨x1,h1,rfl,rfl⟩;(conv=>whnf);refine ⟨rfl,by omega,?_⟩;(conv=>whnf);refine ⟨rfl,by show 0 + a.length ≤ a.length; omega,fits_big (by show a.length + ((x1.drop 0).take x1.length).length ≤ _; simp; omega) (by decide),rfl,?_⟩;(conv=>whnf);refine rQ [] (c_heaps r hrl) ?_;rintro r2 H' ⟨x2,h2,rfl,rfl⟩;(conv=>whnf);refine ⟨rfl,by omega,?_⟩;(conv=>whnf);refine ⟨rfl,by show 0 + (a.length + ((x1.drop 0).take x1.length).length) ≤ (a.take a.length ++ (x1.drop 0).take x1.length).length; simp,fits_big (by show a.length + ((x1.drop 0).take x1.length).length + ((x2.drop 0).take x2.length).length ≤ _; simp; omega) (by decide),rfl,?_⟩;conv=>whnf
 refine loop_of [] [0,5] (fun vs H => ∃ (j n : Nat) (xs : List Int),j ≤ f.length ∧ n = xs.length ∧ n ≤ 4194304 + j ∧ vs = alV n j ∧ H = [.cells (enc_sub ⟨fi,some a,sk,some p,some r,some f⟩),.row .int xs])
  (fun vs _ => match vs with | [_,_,.int _ j] => f.length - j.toNat | _ => 0) (by rfl) (by rfl) (by rfl) (by rfl) ⟨0,a.length + ((x1.drop 0).take x1.length).length + ((x2.drop 0).take x2.length).length,_,Nat.zero_le _,?_,?_,rfl,rfl⟩ ?_
 · simp
 · simp; omega
 rintro vs H1 ⟨j,n,xs,hj,hn,hnb,rfl,rfl⟩;(conv=>whnf);cases hd : decide ((j : Int) < f.length)
 · (conv=>whnf);refine eQ [1] ⟨xs,by omega,?_,rfl⟩;rw [← hn];rfl
 · (conv=>whnf);have hlt := of_decide_eq_true hd;have hw : IntKind.i64.wrap ((j : Int) + 1) = ((j + 1 : Nat) : Int) := wrap_i64 (by omega) (by omega);refine ⟨rfl,by omega,by omega,?_⟩;(conv=>whnf);refine ⟨by rw [Int.toNat_natCast]; omega,by decide,?_⟩;generalize f.getD (Int.toNat (j : Int)) (S.zero .fld) = z;(conv=>whnf);refine rQ [2] (c_heapsO (tyF z)) ?_;rintro r3 H' ⟨x3,h3,rfl,rfl⟩;(conv=>whnf);refine ⟨rfl,by omega,?_⟩;(conv=>whnf);refine ⟨rfl,by show 0 + n ≤ xs.length; omega,fits_big (by show n + ((x3.drop 0).take x3.length).length ≤ _; simp; omega) (by decide),rfl,?_⟩;(conv=>whnf);refine ⟨[0,4],[],relo_of [0,4] (by rfl) (by rfl),?_⟩;refine ⟨⟨j + 1,n + ((x3.drop 0).take x3.length).length,xs.take n ++ (x3.drop 0).take x3.length,by omega,?_,?_,?_,rfl⟩,?_⟩
   · simp; omega
   · simp; omega
   · show [AV.ptr 0 0,.own .int 1 0 (n + ((x3.drop 0).take x3.length).length) .whole,.int .i64 (IntKind.i64.wrap ((j : Int) + 1))] = alV (n + ((x3.drop 0).take x3.length).length) ((j + 1 : Nat) : Int);rw [hw];rfl
   · show f.length - (IntKind.i64.wrap ((j : Int) + 1)).toNat < f.length - (j : Int).toNat;rw [hw]; omega
def fnV (e : Int) (j : Int) : List V := [.int .i64 e,.ptr 0 0,.int .i64 j]
def fnW (e : Int) (n : Nat) (j : Int) : List V := [.int .i64 e,.own .int 0 0 n .whole,.int .i64 j]
theorem c_fine (s : El_sub) (hs : good_sub 1048576 s) (e : Int) : Spec S 111 [.agg (enc_sub s),.int .i64 e] [] fun r H => ∃ b,r = .bool b ∧ H = [] := by
 have kA := c_All s hs;obtain ⟨fi,sa,sk,sp,sr,sf⟩ := s;obtain ⟨⟨a,ha0,hal,hag⟩,hk,⟨p,hp0,hpl,hpg⟩,⟨r,hr0,hrl,hrg⟩,⟨f,hf0,hfl,hfg⟩⟩ := hs;simp only at ha0 hk hp0 hr0 hf0;subst ha0 hp0 hr0 hf0;refine specE ok sh111 rfl ?_;conv=>whnf
 refine loop_of [] [0] (fun vs H => ∃ j : Nat,j ≤ a.length ∧ vs = fnV e j ∧ H = [.cells (enc_sub ⟨fi,some a,sk,some p,some r,some f⟩)])
  (fun vs _ => match vs with | [_,_,.int _ j] => a.length - j.toNat | _ => 0) (by rfl) (by rfl) (by rfl) (by rfl) ⟨0,Nat.zero_le _,rfl,rfl⟩ ?_
 rintro vs H1 ⟨j,hj,rfl,rfl⟩;(conv=>whnf);cases hd : decide ((j : Int) < a.length)
 · (conv=>whnf);refine rQ [] kA ?_;rintro r2 H' ⟨xs,hx,rfl,rfl⟩;conv=>whnf
   refine loop_of [] [1] (fun vs H => ∃ j : Nat,j ≤ xs.length ∧ vs = fnW e xs.length j ∧ H = [.row .int xs])
    (fun vs _ => match vs with | [_,_,.int _ j] => xs.length - j.toNat | _ => 0) (by rfl) (by rfl) (by rfl) (by rfl) ⟨0,Nat.zero_le _,rfl,rfl⟩ ?_
   rintro vs H1 ⟨j,hj,rfl,rfl⟩;(conv=>whnf);cases hd : decide ((j : Int) < xs.length)
   · (conv=>whnf);exact eQ [] ⟨_,rfl,rfl⟩
   · (conv=>whnf);have hlt := of_decide_eq_true hd;have hw : IntKind.i64.wrap ((j : Int) + 1) = ((j + 1 : Nat) : Int) := wrap_i64 (by omega) (by omega);have hm : xs.length - (IntKind.i64.wrap ((j : Int) + 1)).toNat < xs.length - (j : Int).toNat := by rw [hw]; omega
     refine ⟨rfl,by omega,by omega,?_⟩;(conv=>whnf);refine ⟨rfl,by omega,by decide,?_⟩;generalize hz : xs.getD (0 + Int.toNat (j : Int)) (S.zero .int) = z;(conv=>whnf);cases h1 : decide (e ≤ z)
     · (conv=>whnf);refine ⟨rfl,by omega,by omega,?_⟩;(conv=>whnf);refine ⟨rfl,by omega,by decide,?_⟩;rw [hz];(conv=>whnf);cases h2 : decide (z < -12)
       · (conv=>whnf);refine ⟨[0],[],relo_of [0] (by rfl) (by rfl),?_⟩;exact ⟨⟨j + 1,by omega,congrArg (fnW e xs.length) hw,rfl⟩,hm⟩
       · (conv=>whnf);exact eQ [] ⟨_,rfl,rfl⟩
     · (conv=>whnf);exact eQ [] ⟨_,rfl,rfl⟩
 · (conv=>whnf);have hlt := of_decide_eq_true hd;have hw : IntKind.i64.wrap ((j : Int) + 1) = ((j + 1 : Nat) : Int) := wrap_i64 (by omega) (by omega);have hm : a.length - (IntKind.i64.wrap ((j : Int) + 1)).toNat < a.length - (j : Int).toNat := by rw [hw]; omega
   refine ⟨rfl,by omega,by omega,?_⟩;(conv=>whnf);refine ⟨by rw [Int.toNat_natCast]; omega,by decide,?_⟩;generalize hz : a.getD (Int.toNat (j : Int)) (S.zero .int) = z;(conv=>whnf);cases h1 : decide (z < 0)
   · (conv=>whnf);refine ⟨rfl,by omega,by omega,?_⟩;(conv=>whnf);refine ⟨by rw [Int.toNat_natCast]; omega,by decide,?_⟩;rw [hz];(conv=>whnf);cases h2 : decide (e ≤ z)
     · (conv=>whnf);refine ⟨[0],[],relo_of [0] (by rfl) (by rfl),?_⟩;exact ⟨⟨j + 1,by omega,congrArg (fnV e) hw,rfl⟩,hm⟩
     · (conv=>whnf);exact eQ [] ⟨_,rfl,rfl⟩
   · (conv=>whnf);exact eQ [] ⟨_,rfl,rfl⟩
theorem c_rClosed (l : List El_grp) (hl : l.length ≤ 1048576) (hg : ∀ g ∈ l,good_grp 1048576 g) : Spec S 63 [.imm .grp l] [] fun r H => ∃ a b : Int,r = .tup [.int .i64 a,.int .i64 b] ∧ H = [] := by
 refine specE ok sh63 rfl ?_;conv=>whnf
 refine loop_of [] [] (fun vs H => ∃ (j : Nat) (n : Int),j ≤ l.length ∧ vs = [.imm .grp l,.int .i64 n,.int .i64 j] ∧ H = [])
  (fun vs _ => match vs with | [_,_,.int _ j] => l.length - j.toNat | _ => 0) (by rfl) (by rfl) (by rfl) (by rfl) ⟨0,0,Nat.zero_le _,rfl,rfl⟩ ?_
 rintro vs H1 ⟨j,n,hj,rfl,rfl⟩;(conv=>whnf);cases hd : decide ((j : Int) < l.length)
 · (conv=>whnf);exact eQ [] ⟨_,_,rfl,rfl⟩
 · (conv=>whnf);have hlt := of_decide_eq_true hd;have hw : IntKind.i64.wrap ((j : Int) + 1) = ((j + 1 : Nat) : Int) := wrap_i64 (by omega) (by omega);have hm : l.length - (IntKind.i64.wrap ((j : Int) + 1)).toNat < l.length - (j : Int).toNat := by rw [hw]; omega
   have hx := getD_at (show j < l.length by omega) (S.zero .grp);have hgx := hg _ (List.mem_of_getElem? hx);refine ⟨rfl,by omega,by omega,?_⟩;(conv=>whnf);refine ⟨by rw [Int.toNat_natCast]; omega,by decide,?_⟩;rw [show l.getD (Int.toNat (j : Int)) (S.zero .grp) = l.getD j (S.zero .grp) by rw [Int.toNat_natCast]];generalize hz : l.getD j (S.zero .grp) = z at hx hgx;obtain ⟨ty,ex⟩ := z;obtain ⟨t,ht0,htl,htg⟩ := hgx;simp only at ht0;subst ht0;conv=>whnf
   refine loop_of [] [] (fun vs H => ∃ (k : Nat) (e : Int),k ≤ t.length ∧ vs = [.imm .grp l,.int .i64 n,.int .i64 j,.int .i64 e,.int .i64 k] ∧ H = [])
    (fun vs _ => match vs with | [_,_,_,_,.int _ k] => t.length - k.toNat | _ => 0) (by rfl) (by rfl) (by rfl) (by rfl) ⟨0,_,Nat.zero_le _,rfl,rfl⟩ ?_
   rintro vs H1 ⟨k,e,hk,rfl,rfl⟩;have hz2 : l.getD (Int.toNat (j : Int)) (S.zero .grp) = ⟨some t,ex⟩ := by rw [Int.toNat_natCast]; exact hz
   (conv=>whnf);refine ⟨rfl,by omega,by omega,?_⟩;(conv=>whnf);refine ⟨by rw [Int.toNat_natCast]; omega,by decide,?_⟩;rw [hz2];(conv=>whnf);cases hd2 : decide ((k : Int) < t.length)
   · (conv=>whnf);refine ⟨[],[],relo_of [] (by rfl) (by rfl),?_⟩;exact ⟨⟨j + 1,e,by omega,congrArg (fun z : Int => ([AV.imm KT.grp l,AV.int .i64 e,AV.int .i64 z] : List V)) hw,rfl⟩,hm⟩
   · (conv=>whnf);have hlt2 := of_decide_eq_true hd2;have hw2 : IntKind.i64.wrap ((k : Int) + 1) = ((k + 1 : Nat) : Int) := wrap_i64 (by omega) (by omega);have hxs := getD_at (show k < t.length by omega) (S.zero .sub);have hgs := htg _ (List.mem_of_getElem? hxs);refine ⟨rfl,by omega,by omega,?_⟩;(conv=>whnf);refine ⟨by rw [Int.toNat_natCast]; omega,by decide,?_⟩;rw [hz2];(conv=>whnf);refine ⟨rfl,by omega,by omega,?_⟩;(conv=>whnf);refine ⟨by rw [Int.toNat_natCast]; omega,by decide,?_⟩;rw [show t.getD (Int.toNat (k : Int)) (S.zero .sub) = t.getD k (S.zero .sub) by rw [Int.toNat_natCast]];generalize t.getD k (S.zero .sub) = s at hxs hgs;have kf := c_fine s hgs e;obtain ⟨fi,sa,sk,sp,sr,sf⟩ := s;obtain ⟨⟨a,ha0,hal,hag⟩,hk,⟨p,hp0,hpl,hpg⟩,⟨r,hr0,hrl,hrg⟩,⟨f,hf0,hfl,hfg⟩⟩ := hgs;simp only at ha0 hk hp0 hr0 hf0;subst ha0 hp0 hr0 hf0;(conv=>whnf);refine rQ [] kf ?_;rintro r2 H' ⟨b,rfl,rfl⟩;cases b
     · (conv=>whnf);exact eQ [] ⟨_,_,rfl,rfl⟩
     · (conv=>whnf);refine ⟨[],[],relo_of [] (by rfl) (by rfl),?_⟩;refine ⟨⟨k + 1,e,by omega,congrArg (fun z : Int => ([AV.imm KT.grp l,AV.int .i64 n,AV.int .i64 j,AV.int .i64 e,AV.int .i64 z] : List V)) hw2,rfl⟩,?_⟩;show t.length - (IntKind.i64.wrap ((k : Int) + 1)).toNat < t.length - (k : Int).toNat;rw [hw2]; omega
theorem c_open (c : Cx) (hl : c.l.length ≤ 1048576) (hg : ∀ g ∈ c.l,good_grp 1048576 g) : Spec S 25 [.agg (xC c)] [] fun r H => ∃ b,r = .bool b ∧ H = [] := by
 refine specE ok sh25 rfl ?_;(conv=>whnf);refine rQ [] (c_rClosed c.l hl hg) ?_;rintro r H' ⟨a,b,rfl,rfl⟩;(conv=>whnf);exact eQ [] ⟨_,rfl,rfl⟩
end Ck
end Sh
end Go.Proofs.YtomdfaelgcefdaaGreatDoor
namespace Go.Proofs.YtomdfaelgcefdaaGreatDoor
open Go
namespace Sh
namespace Ck
theorem mt_zero (l : List El_grp) (v : El_vt) : mtF l zvt v = true := rfl
variable {c : Cx} {i : In} {h : Nat} {d : Bool} {ops : List El_vt}
end Ck
end Sh
end Go.Proofs.YtomdfaelgcefdaaGreatDoor
namespace Go.Proofs.YtomdfaelgcefdaaGreatDoor
open Go
namespace Sh
namespace Ck
def sameV (a b : List El_vt) (j : Int) : List V := [.imm .vt a,.imm .vt b,.int .i64 j]
theorem c_same (l : List El_vt) (hl : l.length ≤ 4000000) : SpecD S 29 [.imm .vt l,.imm .vt l] [] (.bool true) [] := by
 refine specE ok sh29 rfl ?_;(conv=>whnf);rw [show ((l.length : Int) != l.length) = false by simp];conv=>whnf
 refine loop_of [] [] (fun vs H => ∃ j : Nat,j ≤ l.length ∧ vs = sameV l l j ∧ H = [])
  (fun vs _ => match vs with | [_,_,.int _ j] => l.length - j.toNat | _ => 0) (by rfl) (by rfl) (by rfl) (by rfl) ⟨0,Nat.zero_le _,rfl,rfl⟩ ?_
 rintro vs H1 ⟨j,hj,rfl,rfl⟩;(conv=>whnf);cases hd : decide ((j : Int) < l.length)
 · (conv=>whnf);exact eQ [] ⟨rfl,rfl⟩
 · (conv=>whnf);have hlt := of_decide_eq_true hd;have hw : IntKind.i64.wrap ((j : Int) + 1) = ((j + 1 : Nat) : Int) := wrap_i64 (by omega) (by omega);refine ⟨rfl,by omega,by omega,?_⟩;(conv=>whnf);refine ⟨by rw [Int.toNat_natCast]; omega,by decide,?_⟩;rw [Int.toNat_natCast];generalize hv : l.getD j (S.zero .vt) = v;obtain ⟨a,b,c⟩ := v;(conv=>whnf);refine ⟨rfl,by omega,by omega,?_⟩;(conv=>whnf);refine ⟨by rw [Int.toNat_natCast]; omega,by decide,?_⟩;(conv=>whnf);simp only [Int.toNat_natCast,hv,beq_self_eq_true,Bool.and_self,Bool.not_true];(conv=>whnf);refine ⟨[],[],relo_of [] (by rfl) (by rfl),?_⟩;refine ⟨⟨j + 1,by omega,congrArg (sameV l l) hw,rfl⟩,?_⟩;show l.length - (IntKind.i64.wrap ((j : Int) + 1)).toNat < l.length - (j : Int).toNat;rw [hw]; omega
def insA (o : Int) : El_instr := ⟨o,0,0,0,0,0,0,0,0,false,0,none,none,false,none,none,none⟩
def ctxA : List V := [.nils,.nils,.nils,.nils,.nils,.nils,.nils,.int .i64 0,.nils]
def cnV (j : Int) : List V := [.int .i64 0,.ptr 1 0,.own .instr 0 0 2 .full,.int .i64 2,.int .i64 j]
theorem c_ConstA : SpecD S 64 [.agg ctxA,.own .instr 0 0 2 .full,.int .i64 0] [.row .instr [insA 65,insA 109]] (.tup [.int .i64 1,.int .i64 160]) [.row .instr [insA 65,insA 109]] := by
 refine specE ok sh64 rfl ?_;conv=>whnf
 refine loop_of [] [0,1] (fun vs H => (vs = cnV 0 ∨ vs = cnV 1) ∧ H = [.row .instr [insA 65,insA 109],.cells ctxA])
  (fun vs _ => match vs with | [_,_,_,_,.int _ j] => 2 - j.toNat | _ => 0) (by rfl) (by rfl) (by rfl) (by rfl) ⟨.inl rfl,rfl⟩ ?_
 rintro vs H1 ⟨rfl | rfl,rfl⟩
 · (conv=>whnf);refine ⟨rfl,by decide,by decide,?_⟩;(conv=>whnf);refine ⟨rfl,by decide,by decide,?_⟩;(conv=>whnf);refine ⟨[0,1],[],relo_of [0,1] (by rfl) (by rfl),?_⟩;exact ⟨⟨.inr rfl,rfl⟩,by decide⟩
 · (conv=>whnf);refine ⟨rfl,by decide,by decide,?_⟩;(conv=>whnf);refine ⟨rfl,by decide,by decide,?_⟩;(conv=>whnf);exact eQ [0] (by exact ⟨rfl,rfl⟩)
theorem c_awake : SpecD S 26 [] [] (.bool true) [] := by
 refine specE ok sh26 rfl ?_;(conv=>whnf);refine cQ [0] c_ConstA ?_;(conv=>whnf);exact eQ [] (by exact ⟨rfl,rfl⟩)
def leA (u u' : V) : Prop := u = u' ∨ (u' = .nils ∧ ∃ k,u = .imm k []) ∨ (u = .cell ∧ (∀ (E : Env) (w : World) (v : Value),VR S E w u' v → v.oneCell' = true))
def leL : List V → List V → Prop
 | [],[] => True
 | u :: us,u' :: us' => leA u u' ∧ leL us us'
 | _,_ => False
theorem leA_VR {u u' : V} (h : leA u u') {E : Env} {w : World} {v : Value} (hv : VR S E w u' v) : VR S E w u v := by
 rcases h with rfl | ⟨rfl,k,rfl⟩ | ⟨rfl,h⟩
 · exact hv
 · cases hv; exact VR.immNil none 0 (Nat.zero_le _)
 · exact VR.cell v (h E w v hv)
theorem leL_at : ∀ {us us' : List V},leL us us' → us.length = us'.length ∧ ∀ (j : Nat) u,us[j]? = some u → ∃ u',us'[j]? = some u' ∧ leA u u'
 | [],[],_ => ⟨rfl,fun j u h => by simp at h⟩
 | a :: us,b :: us',h => by
  obtain ⟨h1,h2⟩ := leL_at h.2;refine ⟨by simp [h1],fun j u hj => ?_⟩
  cases j with
  | zero => simp at hj; subst hj; exact ⟨b,rfl,h.1⟩
  | succ j => simpa using h2 j u (by simpa using hj)
 | [],_ :: _,h => h.elim
 | _ :: _,[],h => h.elim
theorem leA_one {u u' : V} (h : leA u u') (h1 : u'.one = true) : u.one = true := by
 rcases h with rfl | ⟨rfl,k,rfl⟩ | ⟨rfl,h⟩
 · exact h1
 · rfl
 · rfl
end Ck
end Sh
end Go.Proofs.YtomdfaelgcefdaaGreatDoor
namespace Go.Proofs.YtomdfaelgcefdaaGreatDoor
open Go
namespace Sh
namespace Ck
theorem deadF_lab (f : El_frame) : labL (deadF f) = labL f := rfl
structure Fw (w : Wh) (fs : List El_frame) (f : El_frame) : Prop where
 eq : frW w = fs ++ [f]
 hh : f.height = 0
 hl : fs.length ≤ 3000000
 hd : w.dead = true → f.dead = true
 hg : ∀ f' ∈ fs ++ [f],(f'.inn.getD []).length ≤ 1048576 ∧ (f'.out.getD []).length ≤ 1048576
theorem frN_good (w : Wh) (G : Gw w) : ∀ f ∈ frN w w.dp.length,(f.inn.getD []).length ≤ 1048576 ∧ (f.out.getD []).length ≤ 1048576 := by
 intro f hf;unfold frN at hf
 rcases List.mem_cons.1 hf with rfl | hf
 · exact ⟨by simp [mkF],by simpa [mkF] using G.hr⟩
 · obtain ⟨b,hb,rfl⟩ := List.mem_map.1 hf;obtain ⟨q,rfl,hq⟩ := G.hd b (List.mem_of_mem_take hb);exact ⟨by simp [mkF],by simpa [mkF] using hq⟩
theorem frW_split (w : Wh) (G : Gw w) : ∃ fs f,frN w w.dp.length = fs ++ [f] ∧ Fw w fs (if w.dead = true then deadF f else f) := by
 obtain ⟨fs,f,h1,h2,h3⟩ := frN_last w w.dp.length;have hg := frN_good w G;have hlen : (frN w w.dp.length).length = w.dp.length + 1 := by simp [frN]
 have hdl := G.hdl;rw [h1] at hg;refine ⟨fs,f,h1,?_,?_,by omega,?_,?_⟩
 · unfold frW;rw [h1];split
   · simp [deadL]
   · rfl
 · split
   · exact h2
   · exact h2
 · intro hd; rw [if_pos hd]; rfl
 · intro f' hf'
   rcases List.mem_append.1 hf' with h | h
   · exact hg f' (List.mem_append_left _ h)
   · simp only [List.mem_singleton] at h;subst h;have := hg f (by simp);split
     · exact this
     · exact this
theorem c_StepW (w : Wh) (G : Gw w) (i : In) (hi : Gi i) {fs : List El_frame} {f : El_frame} (F : Fw w fs f) (C : Cp) (op : List El_vt) (h1 : w.sk.length ≤ op.length) (h2 : C ≠ .unk) (h3 : op.take w.sk.length = w.sk) :
    Spec S 28 [.agg (xC w.c),.ptr 0 0,.agg (iC i)] (ck w.c.l (loW w) (seW w) w.rs w.sk.length C op (frW w)) (okR w.c.l (loW w) (seW w) w.rs (frW w) (.int .i64 (stepF w.c i (frW w) 0 f.dead w.sk).1) (stepF w.c i (frW w) 0 f.dead w.sk).2) := by
 have k := c_Step (c := w.c) (lo := loW w) (se := seW w) (re := w.rs) (op := op) (fs := fs) (f := f) (h := 0) (m := w.sk.length) (C := C) ⟨G.hl,G.hg,by have := F.hl; omega,by rw [F.hh]; rfl,h1,by have := G.hk; omega,h2⟩ F.hl hi F.hg;rw [h3] at k;rw [F.eq];exact k
end Ck
end Sh
end Go.Proofs.YtomdfaelgcefdaaGreatDoor
namespace Go.Proofs.YtomdfaelgcefdaaGreatDoor
open Go
namespace Sh
namespace Ck
theorem popL_up (b : List El_vt) {ops : List El_vt} (e : (popL 0 false ops).2.1 = 0) : popL 0 false (b ++ ops) = ((popL 0 false ops).1,0,b ++ (popL 0 false ops).2.2) := by
 unfold popL at e ⊢
 by_cases h : 0 < ops.length
 · have h2 : 0 < (b ++ ops).length := by simp; omega
   have e1 : (b ++ ops).getD ((b ++ ops).length - 1) zvt = ops.getD (ops.length - 1) zvt := by
    simp only [List.getD_eq_getElem?_getD,List.length_append];rw [List.getElem?_append_right (by omega),show b.length + ops.length - 1 - b.length = ops.length - 1 by omega]
   have e2 : (b ++ ops).take ((b ++ ops).length - 1) = b ++ ops.take (ops.length - 1) := by
    rw [List.length_append,List.take_append,List.take_of_length_le (by omega),show b.length + ops.length - 1 - b.length = ops.length - 1 by omega]
   rw [if_pos h,if_pos h2,e1,e2]
 · rw [if_neg h] at e; simp at e
theorem popT_up (l : List El_grp) (b : List El_vt) {ops : List El_vt} {v : El_vt} (e : (popT l 0 false ops v).2.1 = 0) : popT l 0 false (b ++ ops) v = ((popT l 0 false ops v).1,0,b ++ (popT l 0 false ops v).2.2) := by
 unfold popT at e ⊢
 by_cases h : (popL 0 false ops).2.1 = 0
 · have hu := popL_up b h
   by_cases hm : mtF l (popL 0 false ops).1 v = true
   · simp [hu,h,hm]
   · rw [if_pos h,if_neg hm] at e; simp at e
 · rw [if_neg h] at e; exact absurd e h
theorem popsR_up (l : List El_grp) (b o o' : List El_vt) : ∀ (q ops : List El_vt),(popsR l 0 false o q ops).1 = 0 → popsR l 0 false o' q (b ++ ops) = (0,b ++ (popsR l 0 false o q ops).2)
 | [],_,_ => rfl
 | v :: r,ops,e => by
  rw [popsR] at e
  by_cases h : (popT l 0 false ops v).2.1 = 0
  · rw [if_pos h] at e;have hu := popT_up l b h;have e2 := popsR_up l b o o' r _ e;rw [popsR,popsR,if_pos h,hu];simp only [if_true];exact e2
  · rw [if_neg h] at e; exact absurd e h
theorem swap_up (l : List El_grp) (b : List El_vt) {q out ops : List El_vt} (e : (swapL l 0 false ops q out).1 = 0) : swapL l 0 false (b ++ ops) q out = (0,b ++ (swapL l 0 false ops q out).2) := by
 unfold swapL popsL at e ⊢
 by_cases h : (popsR l 0 false ops q.reverse ops).1 = 0
 · have hu := popsR_up l b ops (b ++ ops) q.reverse ops h;rw [hu,if_pos h];simp only [if_true,List.append_assoc]
 · rw [if_neg h] at e; exact absurd e h
theorem popd_up (b : List El_vt) {ops : List El_vt} {g : El_vt → El_vt} (e : (popdF 0 false ops g).1 = 0) : popdF 0 false (b ++ ops) g = (0,b ++ (popdF 0 false ops g).2) := by
 unfold popdF at e ⊢
 by_cases h : (popL 0 false ops).2.1 = 0
 · have hu := popL_up b h
   by_cases hm : (popL 0 false ops).1.num = 5 ∨ (popL 0 false ops).1.num = 0
   · simp [hu,h,hm]
   · rw [if_pos h,if_neg hm] at e; simp at e
 · rw [if_neg h] at e; exact absurd e h
theorem turn_up (l : List El_grp) (b : List El_vt) {ops : List El_vt} {x y : Int} (e : (turnF l 0 false ops x y).1 = 0) : turnF l 0 false (b ++ ops) x y = (0,b ++ (turnF l 0 false ops x y).2) := by
 unfold turnF at e ⊢
 by_cases h : (popT l 0 false ops ⟨5,true,x⟩).2.1 = 0
 · have hu := popT_up l b h;rw [hu,if_pos h];simp only [if_true,List.append_assoc]
 · rw [if_neg h] at e; exact absurd e h
variable {c : Cx} {i : In} {ops : List El_vt}
theorem refsF_up (b : List El_vt) (e : (refsF c i 0 false ops).1 = 0) : refsF c i 0 false (b ++ ops) = (0,b ++ (refsF c i 0 false ops).2) := by
 unfold refsF at e ⊢;repeat' split at e
 all_goals simp_all [swap_up,popd_up]
theorem structF_up (b : List El_vt) (e : (structF c i 0 false ops).1 = 0) : structF c i 0 false (b ++ ops) = (0,b ++ (structF c i 0 false ops).2) := by
 unfold structF at e ⊢;repeat' split at e
 all_goals simp_all [swap_up]
theorem elemF_up (b : List El_vt) {g : El_fld} {v : El_vt} (e : (elemF c i 0 false ops g v).1 = 0) : elemF c i 0 false (b ++ ops) g v = (0,b ++ (elemF c i 0 false ops g v).2) := by
 unfold elemF at e ⊢;repeat' split at e
 all_goals simp_all [swap_up]
theorem arrF_up (b : List El_vt) (e : (arrF c i 0 false ops).1 = 0) : arrF c i 0 false (b ++ ops) = (0,b ++ (arrF c i 0 false ops).2) := by
 unfold arrF at e ⊢
 by_cases h1 : (cmpF c.l i.x 3).2 = 0
 · rw [if_pos h1] at e ⊢; rw [if_pos h1]
   by_cases h2 : i.op = 64262
   · rw [if_pos h2] at e ⊢; rw [if_pos h2]; exact swap_up _ _ e
   rw [if_neg h2] at e ⊢; rw [if_neg h2]
   by_cases h3 : i.op = 64263
   · rw [if_pos h3] at e ⊢; rw [if_pos h3]
     by_cases h4 : dfl (tyF (((cmpF c.l i.x 3).1.fields.getD []).getD 0 (zeroT .fld))) = true
     · rw [if_pos h4] at e ⊢; rw [if_pos h4]; exact swap_up _ _ e
     · rw [if_neg h4] at e; simp at e
   rw [if_neg h3] at e ⊢; rw [if_neg h3]
   by_cases h5 : i.op = 64264
   · rw [if_pos h5] at e ⊢; rw [if_pos h5]
     by_cases h6 : 10000 < i.n
     · rw [if_pos h6] at e; simp at e
     · rw [if_neg h6] at e ⊢; rw [if_neg h6]; exact swap_up _ _ e
   rw [if_neg h5] at e ⊢; rw [if_neg h5]
   by_cases h7 : i.op = 64265 ∨ i.op = 64266
   · rw [if_pos h7] at e ⊢; rw [if_pos h7]
     by_cases h8 : segF c i (((cmpF c.l i.x 3).1.fields.getD []).getD 0 (zeroT .fld)) = 0
     · rw [if_pos h8] at e ⊢; rw [if_pos h8]; exact swap_up _ _ e
     · rw [if_neg h8] at e; exact absurd e h8
   rw [if_neg h7] at e ⊢; rw [if_neg h7];exact elemF_up b e
 · rw [if_neg h1] at e;exact absurd e h1
theorem castF_up (b : List El_vt) (e : (castF c i 0 false ops).1 = 0) : castF c i 0 false (b ++ ops) = (0,b ++ (castF c i 0 false ops).2) := by
 unfold castF at e ⊢;split
 · rename_i hty; rw [hty] at e; simp at e
 · rename_i t r hty;rw [hty] at e;simp only at e ⊢
   by_cases h : (topF c.l t.heap).2 = 0
   · rw [if_pos h] at e ⊢; rw [if_pos h]; exact swap_up _ _ e
   · rw [if_neg h] at e; simp at e
theorem step_up {fr fr' : List El_frame} (b : List El_vt) (n1 : ¬ i.op = 64280) (n2 : ¬ i.op = 64281) (e : (stepF c i fr 0 false ops).1 = 0) : stepF c i fr' 0 false (b ++ ops) = (0,b ++ (stepF c i fr 0 false ops).2) := by
 unfold stepF at e ⊢
 by_cases h0 : tkF i.op = true
 · rw [if_pos h0] at e ⊢; rw [if_pos h0]
   by_cases h1 : i.op < 64256
   · rw [if_pos h1] at e ⊢; rw [if_pos h1]; exact refsF_up b e
   rw [if_neg h1] at e ⊢; rw [if_neg h1]
   by_cases h2 : i.op ≤ 64261
   · rw [if_pos h2] at e ⊢; rw [if_pos h2]; exact structF_up b e
   rw [if_neg h2] at e ⊢; rw [if_neg h2]
   by_cases h3 : i.op = 64271
   · rw [if_pos h3] at e ⊢; rw [if_pos h3]; exact swap_up _ _ e
   rw [if_neg h3] at e ⊢; rw [if_neg h3]
   by_cases h4 : i.op ≤ 64275
   · rw [if_pos h4] at e ⊢; rw [if_pos h4]; exact arrF_up b e
   rw [if_neg h4] at e ⊢; rw [if_neg h4]
   by_cases h5 : i.op ≤ 64279
   · rw [if_pos h5] at e ⊢; rw [if_pos h5]; exact castF_up b e
   rw [if_neg h5] at e ⊢; rw [if_neg h5]
   by_cases h6 : i.op ≤ 64281
   · omega
   rw [if_neg h6] at e ⊢; rw [if_neg h6]
   by_cases h7 : i.op = 64282
   · rw [if_pos h7] at e ⊢; rw [if_pos h7]; exact turn_up _ _ e
   rw [if_neg h7] at e ⊢; rw [if_neg h7]
   by_cases h8 : i.op = 64283
   · rw [if_pos h8] at e ⊢; rw [if_pos h8]; exact turn_up _ _ e
   rw [if_neg h8] at e ⊢; rw [if_neg h8]
   by_cases h9 : i.op = 64284
   · rw [if_pos h9] at e ⊢; rw [if_pos h9]; exact swap_up _ _ e
   rw [if_neg h9] at e ⊢; rw [if_neg h9]; exact swap_up _ _ e
 · rw [if_neg h0] at e;exact absurd e (by simp)
theorem ln_popL_len (h : Nat) (d : Bool) (ops : List El_vt) : (popL h d ops).2.2.length ≤ ops.length := by
 unfold popL;split
 · simp
 · split <;> exact Nat.le_refl _
theorem ln_popT_len (l : List El_grp) (h : Nat) (d : Bool) (ops : List El_vt) (v : El_vt) : (popT l h d ops v).2.2.length ≤ ops.length := by
 unfold popT;repeat' split
 · exact ln_popL_len h d ops
 · exact Nat.le_refl _
 · exact ln_popL_len h d ops
theorem ln_popsR_len (l : List El_grp) (h : Nat) (d : Bool) (o : List El_vt) : ∀ (q ops : List El_vt),ops.length ≤ o.length → (popsR l h d o q ops).2.length ≤ o.length
 | [],_,hl => hl
 | v :: r,ops,hl => by
  rw [popsR];split
  · exact ln_popsR_len l h d o r _ (Nat.le_trans (ln_popT_len l h d ops v) hl)
  · exact Nat.le_refl _
theorem ln_popsL_len (l : List El_grp) (h : Nat) (d : Bool) (ops q : List El_vt) : (popsL l h d ops q).2.length ≤ ops.length := ln_popsR_len l h d ops _ _ (Nat.le_refl _)
theorem ln_swap_len (l : List El_grp) (h : Nat) (d : Bool) (ops q out : List El_vt) : (swapL l h d ops q out).2.length ≤ ops.length + out.length := by
 unfold swapL;have := ln_popsL_len l h d ops q;split
 · simp only [List.length_append]; omega
 · simp only []; omega
theorem popd_len (h : Nat) (d : Bool) (ops : List El_vt) (g : El_vt → El_vt) : (popdF h d ops g).2.length ≤ ops.length + 1 := by
 unfold popdF;have := ln_popL_len h d ops;repeat' split
 all_goals simp <;> omega
theorem turn_len (l : List El_grp) (h : Nat) (d : Bool) (ops : List El_vt) (x y : Int) : (turnF l h d ops x y).2.length ≤ ops.length + 1 := by
 unfold turnF;have := ln_popT_len l h d ops ⟨5,true,x⟩;split;all_goals simp <;> omega
theorem ln_ln_swap_len1 (l : List El_grp) (h : Nat) (d : Bool) (ops q out : List El_vt) (ho : out.length ≤ 1) : (swapL l h d ops q out).2.length ≤ ops.length + 1 := Nat.le_trans (ln_swap_len l h d ops q out) (by omega)
variable {h : Nat} {d : Bool}
theorem refsF_len : (refsF c i h d ops).2.length ≤ ops.length + 1 := by
 unfold refsF;repeat' split
 all_goals first | exact popd_len _ _ _ _ | exact ln_ln_swap_len1 _ _ _ _ _ _ (by decide) | (simp; done) | exact Nat.le_succ _
theorem structF_len : (structF c i h d ops).2.length ≤ ops.length + 1 := by
 unfold structF;repeat' split
 all_goals first | exact ln_ln_swap_len1 _ _ _ _ _ _ (by simp) | (simp; done) | exact Nat.le_succ _
theorem elemF_len {g : El_fld} {v : El_vt} : (elemF c i h d ops g v).2.length ≤ ops.length + 1 := by
 unfold elemF;repeat' split
 all_goals first | exact ln_ln_swap_len1 _ _ _ _ _ _ (by simp) | exact Nat.le_succ _
theorem arrF_len : (arrF c i h d ops).2.length ≤ ops.length + 1 := by
 unfold arrF;repeat' split
 all_goals first | exact elemF_len | exact ln_ln_swap_len1 _ _ _ _ _ _ (by simp) | exact Nat.le_succ _
theorem castF_len : (castF c i h d ops).2.length ≤ ops.length + 1 := by
 unfold castF;repeat' split
 all_goals first | exact ln_ln_swap_len1 _ _ _ _ _ _ (by simp) | exact Nat.le_succ _
theorem step_len {fr : List El_frame} (n1 : ¬ i.op = 64280) (n2 : ¬ i.op = 64281) : (stepF c i fr h d ops).2.length ≤ ops.length + 1 := by
 unfold stepF
 by_cases h0 : tkF i.op = true
 · rw [if_pos h0]
   by_cases h1 : i.op < 64256
   · rw [if_pos h1]; exact refsF_len
   rw [if_neg h1]
   by_cases h2 : i.op ≤ 64261
   · rw [if_pos h2]; exact structF_len
   rw [if_neg h2]
   by_cases h3 : i.op = 64271
   · rw [if_pos h3]; exact ln_ln_swap_len1 _ _ _ _ _ _ (by simp)
   rw [if_neg h3]
   by_cases h4 : i.op ≤ 64275
   · rw [if_pos h4]; exact arrF_len
   rw [if_neg h4]
   by_cases h5 : i.op ≤ 64279
   · rw [if_pos h5]; exact castF_len
   rw [if_neg h5]
   by_cases h6 : i.op ≤ 64281
   · omega
   rw [if_neg h6];repeat' split
   all_goals first | exact turn_len _ _ _ _ _ _ | exact ln_ln_swap_len1 _ _ _ _ _ _ (by simp)
 · rw [if_neg h0]; exact Nat.le_succ _
end Ck
end Sh
end Go.Proofs.YtomdfaelgcefdaaGreatDoor
namespace Go.Proofs.YtomdfaelgcefdaaGreatDoor
open Go
namespace Sh
namespace Ck
def wO (w : Wh) (n : Nat) (D : Cp) : List V := [.imm .grp w.c.l,.imm .int w.c.fu,.cell,.cell,.cell,.cell,.imm .vt w.c.el,.int .i64 w.c.da,.imm .bool w.c.rf,.imm .vt w.ps,.imm .vt w.ls,.imm .vt w.rs,.imm .lvt w.dp,.own .vt 0 0 n D,.bool w.dead]
def ckS (l : List El_grp) (lo : List El_vt) (se : List Bool) (re : List El_vt) (m : Nat) (C : Cp) (op : List El_vt) (fr : List El_frame) : Heap KT ElT :=
 [.gone,.cells [.bool true,.imm .grp l,.own .vt 2 0 lo.length .whole,.own .bool 3 0 se.length .whole,.own .vt 4 0 re.length .whole,.own .vt 5 0 m C,.own .frame 6 0 fr.length .whole],.row .vt lo,.row .bool se,.row .vt re,.row .vt op,.row .frame fr]
theorem c_beginO (w : Wh) (G : Gw w) (D : Cp) (L : List El_vt) (n : Nat) (hn : n ≤ L.length) (hL : (L.drop 0).take n = w.sk) : Spec S 27 [.agg (wO w n D)] [.row .vt L] (fun r H => r = .tup [.ptr 1 0,.cell] ∧ ∃ C op,w.sk.length ≤ op.length ∧ C ≠ .unk ∧ op.take w.sk.length = w.sk ∧ H = ckS w.c.l (loW w) (seW w) w.rs w.sk.length C op (frW w)) := by
 have k := c_begin0 w G;rw [show (AV.agg (wC w) : V) = .agg ([.imm .grp w.c.l,.imm .int w.c.fu,.cell,.cell,.cell,.cell,.imm .vt w.c.el,.int .i64 w.c.da,.imm .bool w.c.rf,.imm .vt w.ps,.imm .vt w.ls,.imm .vt w.rs,.imm .lvt w.dp,.imm .vt ((L.drop 0).take n),.bool w.dead]) by rw [hL]; rfl] at k;refine Spec.relo ok [] [0] (by rfl) ?_ trivial k ?_
 · refine ⟨?_,trivial⟩
   all_goals repeat' first | exact trivial | exact rfl | exact (show 0 + n ≤ L.length by omega) | refine And.intro ?_ ?_
 rintro r H' ⟨rfl,C,op,h1,h2,h3,rfl⟩;exact ⟨1,[6,0,1,2,3,4,5],rfl,rfl,rfl,C,op,h1,h2,h3,rfl⟩
theorem frN_live (w : Wh) (j : Nat) : ∀ f ∈ frN w j,f.dead = false := by
 intro f hf;unfold frN at hf
 rcases List.mem_cons.1 hf with rfl | hf
 · rfl
 · obtain ⟨b,_,rfl⟩ := List.mem_map.1 hf;rfl
theorem c_VrefAhead (w : Wh) (G : Gw w) (hk1 : w.sk.length ≤ 1048576) (i : In) (hi : Gi i) (be : List El_vt) (hbe : be.length ≤ 1048576) : SpecD S 5 [.agg (wC w),.agg (iC i),.imm .vt be] [] (.bool true) [] := by
 have ko := c_open w.c G.hl G.hg;have kb1 := c_begin0 w G;obtain ⟨c,ps,ls,rs,dp,sk,dead⟩ := w;simp only at hk1;have G2 : Gw ⟨c,ps,ls,rs,dp,be ++ sk,dead⟩ := ⟨G.hl,G.hg,G.hp,G.hls,G.hr,G.hdl,G.hd,by simp; omega⟩;have kb2 := fun L n hn hL => c_beginO ⟨c,ps,ls,rs,dp,be ++ sk,dead⟩ G2 .whole L n hn hL;obtain ⟨fs1,f1,q1,F1⟩ := frW_split _ G;obtain ⟨fs2,f2,q2,F2⟩ := frW_split _ G2;have ks1 := c_StepW _ G i hi F1;have ks2 := c_StepW _ G2 i hi F2
 have hup : dead = false → ¬ i.op = 64280 → ¬ i.op = 64281 → (stepF c i (frW ⟨c,ps,ls,rs,dp,sk,dead⟩) 0 (if dead = true then deadF f1 else f1).dead sk).1 = 0 →
     stepF c i (frW ⟨c,ps,ls,rs,dp,be ++ sk,dead⟩) 0 (if dead = true then deadF f2 else f2).dead (be ++ sk) = (0,be ++ (stepF c i (frW ⟨c,ps,ls,rs,dp,sk,dead⟩) 0 (if dead = true then deadF f1 else f1).dead sk).2) := by
  rintro rfl n1 n2 e;have e1 : (if false = true then deadF f1 else f1).dead = false := frN_live _ _ f1 (by rw [q1]; simp);have e2 : (if false = true then deadF f2 else f2).dead = false := frN_live _ _ f2 (by rw [q2]; simp);rw [e1] at e ⊢;rw [e2];exact step_up be n1 n2 e
 have hlen : ¬ i.op = 64280 → ¬ i.op = 64281 → (stepF c i (frW ⟨c,ps,ls,rs,dp,sk,dead⟩) 0 (if dead = true then deadF f1 else f1).dead sk).2.length ≤ sk.length + 1 := fun n1 n2 => step_len n1 n2;simp only at ks1 ks2;generalize stepF c i (frW ⟨c,ps,ls,rs,dp,sk,dead⟩) 0 (if dead = true then deadF f1 else f1).dead sk = P1 at ks1 hup hlen;generalize stepF c i (frW ⟨c,ps,ls,rs,dp,be ++ sk,dead⟩) 0 (if dead = true then deadF f2 else f2).dead (be ++ sk) = P2 at ks2 hup;obtain ⟨e1,o1⟩ := P1;obtain ⟨e2,o2⟩ := P2;simp only at hup hlen ks1 ks2;clear F1 F2 q1 q2;refine specE ok sh5 rfl ?_;(conv=>whnf);refine rQ [] ko ?_;rintro r H' ⟨b,rfl,rfl⟩;cases b
 rotate_left
 · (conv=>whnf);refine cQ [] c_awake ?_;(conv=>whnf);exact eQ [] (by exact ⟨rfl,rfl⟩)
 (conv=>whnf);refine rQ [] kb1 ?_;rintro r H' ⟨rfl,C1,op1,a1,b1,d1,rfl⟩;have ks1 := ks1 C1 op1 a1 b1 d1;cases C1;all_goals try exact absurd rfl b1
 all_goals
  cases dead
  rotate_left
  · (conv=>whnf);refine cQ [] c_awake ?_;(conv=>whnf);exact eQ [] (by exact ⟨rfl,rfl⟩)
  (conv=>whnf);simp only;cases h2 : decide (0 < (dp.length : Int))
  rotate_left
  · (conv=>whnf);refine cQ [] c_awake ?_;(conv=>whnf);exact eQ [] (by exact ⟨rfl,rfl⟩)
  (conv=>whnf);cases h3 : (i.op == 64280)
  rotate_left
  · (conv=>whnf);refine cQ [] c_awake ?_;(conv=>whnf);exact eQ [] (by exact ⟨rfl,rfl⟩)
  (conv=>whnf);cases h4 : (i.op == 64281)
  rotate_left
  · (conv=>whnf);refine cQ [] c_awake ?_;(conv=>whnf);exact eQ [] (by exact ⟨rfl,rfl⟩)
  have n1 : ¬ i.op = 64280 := by simpa using h3
  have n2 : ¬ i.op = 64281 := by simpa using h4
  (conv=>whnf);refine rQ [2,3,4,5,6,7] ks1 ?_;rintro r H' ⟨rfl,m2,C2,op2,a2,b2,d2,rfl⟩;cases C2;all_goals try exact absurd rfl b2
  all_goals
   (conv=>whnf);cases h5 : (e1 == 0)
   · simp only [bne,h5];(conv=>whnf);refine cQ [] c_awake ?_;(conv=>whnf);exact eQ [] (by exact ⟨rfl,rfl⟩)
   have he : e1 = 0 := by simpa using h5
   have hP := hup rfl n1 n2 he;have hl := hlen n1 n2;obtain ⟨rfl,rfl⟩ := Prod.mk.inj hP;simp only [bne,h5];(conv=>whnf);refine tQ ?_;(conv=>whnf);refine ⟨rfl,by simp,fits_big (by show 0 + be.length ≤ _; omega) (by decide),rfl,?_⟩;(conv=>whnf);refine tQ ?_;(conv=>whnf);refine ⟨rfl,by simp,fits_big (by show 0 + be.length + sk.length ≤ _; omega) (by decide),rfl,?_⟩;(conv=>whnf);refine rQ [12] (kb2 _ _ (by show 0 + be.length + sk.length ≤ (List.take (0 + be.length) (List.take 0 [] ++ be) ++ sk).length; simp) (by show (List.drop 0 (List.take (0 + be.length) (List.take 0 [] ++ be) ++ sk)).take (0 + be.length + sk.length) = be ++ sk; simp [List.take_append]; exact List.take_of_length_le (by omega))) ?_;rintro r H' ⟨rfl,C3,op3,a3,b3,d3,rfl⟩;have ks2 := ks2 C3 op3 a3 b3 d3;cases C3;all_goals try exact absurd rfl b3
   all_goals
    (conv=>whnf);refine rQ [13,14,15,16,17,18] ks2 ?_;rintro r H' ⟨rfl,m4,C4,op4,a4,b4,d4,rfl⟩
    have hl2 : m2 ≤ 4000000 := by
     have := congrArg List.length d2;simp at this;omega
    have hl4 : m4 ≤ 4000000 := by
     have := congrArg List.length d4;simp at this;omega
    have kp1 := fun C h => c_Operands (l := c.l) (lo := loW ⟨c,ps,ls,rs,dp,sk,false⟩) (se := seW ⟨c,ps,ls,rs,dp,sk,false⟩) (re := rs) (op := op2) (fr := frW ⟨c,ps,ls,rs,dp,sk,false⟩) (m := m2) (C := C) h a2 hl2;have kp2 := fun C h => c_Operands (l := c.l) (lo := loW ⟨c,ps,ls,rs,dp,be ++ sk,false⟩) (se := seW ⟨c,ps,ls,rs,dp,be ++ sk,false⟩) (re := rs) (op := op4) (fr := frW ⟨c,ps,ls,rs,dp,be ++ sk,false⟩) (m := m4) (C := C) h a4 hl4;rw [d2] at kp1;rw [d4] at kp2;cases C4;all_goals try exact absurd rfl b4
    all_goals
     (conv=>whnf);refine cQ [13,14,15,16,19,18] ((kp2 _ (by decide))) ?_;(conv=>whnf);have hd : decide ((be.length : Int) ≤ (be ++ o1).length) = true := decide_eq_true (by simp; omega);simp only [hd];(conv=>whnf);refine ⟨rfl,by omega,by omega,by simp; omega,rfl,?_⟩;(conv=>whnf);rw [show List.drop (Int.toNat 0) (List.take ((be.length : Int)).toNat (be ++ o1)) = be by simp];refine cQ [] ((c_same be (by omega))) ?_;(conv=>whnf);refine ⟨rfl,by omega,by simp; omega,by omega,rfl,?_⟩;(conv=>whnf);rw [show List.drop (Int.toNat (be.length : Int)) (List.take (Int.toNat ((be ++ o1).length : Int)) (be ++ o1)) = o1 by rw [Int.toNat_natCast,Int.toNat_natCast,List.take_length,List.drop_left]];refine cQ [2,3,4,5,8,7] (kp1 _ (by decide)) ?_;(conv=>whnf);refine tQ ?_;(conv=>whnf);refine cQ [] ((c_same o1 (by omega))) ?_;(conv=>whnf);refine cQ [] c_awake ?_;(conv=>whnf);exact eQ [] (by exact ⟨rfl,rfl⟩)
end Ck
end Sh
end Go.Proofs.YtomdfaelgcefdaaGreatDoor
namespace Go.Proofs.YtomdfaelgcefdaaGreatDoor
open Go
namespace Sh
theorem bulk_one {H : Type} (d : DataW H) : 1 ≤ Rows.uptoBulk d := by
 cases d with
 | lit l => cases l <;> simp [Rows.uptoBulk]
 | nil => simp [Rows.uptoBulk]
 | ptr d => simp [Rows.uptoBulk]
 | slice elems spare => simp [Rows.uptoBulk]
 | agg parts => simp [Rows.uptoBulk]
 | iface t d => simp [Rows.uptoBulk]
 | map entries => simp [Rows.uptoBulk]
 | held h => simp [Rows.uptoBulk]
theorem bulk_part {H : Type} {d : DataW H} {l : List (DataW H)} (h : d ∈ l) : Rows.uptoBulk d ≤ Rows.uptoBulkAll l := by
 induction l with
 | nil => cases h
 | cons x r ih =>
  simp only [Rows.uptoBulkAll]
  cases List.mem_cons.1 h with
  | inl e => subst e; omega
  | inr e => have := ih e; omega
theorem bulk_len {H : Type} (l : List (DataW H)) : l.length ≤ Rows.uptoBulkAll l := by
 induction l with
 | nil => simp [Rows.uptoBulkAll]
 | cons x r ih => have := bulk_one x; simp only [Rows.uptoBulkAll,List.length_cons]; omega
theorem bulk_small {H : Type} : Small (Hd := H) 1048576 fun d => Rows.uptoBulk d ≤ 1048576 where
 sl {es sp} h _ := by
  simp only [Rows.uptoBulk] at h;have := bulk_len es;exact ⟨by omega,fun e he => by have := bulk_part he; omega⟩
 agg {ps} h p hp := by
  simp only [Rows.uptoBulk] at h;have := bulk_part hp;omega
 str {s} h _ := by
  simp only [Rows.uptoBulk,Array.length_toList] at h;exact Nat.le_trans (Nat.le_succ _) h
namespace Ck
theorem VR2_le {us us' : List V} (hl : leL us us') {W : World} {v : Value} (h : VR2 S E0 W (.agg us') v) : VR2 S E0 W (.agg us) v := by
 obtain ⟨h1,h2⟩ := leL_at hl;obtain ⟨cs,rfl,hcs,hc⟩ := h;refine ⟨cs,rfl,by rw [hcs,h1],fun t x hx => ?_⟩;obtain ⟨x',hx',hle⟩ := h2 t x hx;obtain ⟨y,hy1,hy2,hy3⟩ := hc t x' hx';exact ⟨y,hy1,leA_one hle hy2,leA_VR hle hy3⟩
theorem le_imm {k : KT} (xs : List (ElT k)) : leA .cell (.imm k xs) := .inr (.inr ⟨rfl,fun E w v h => by cases h <;> rfl⟩)
theorem le_int {k : IntKind} (n : Int) : leA .cell (.int k n) := .inr (.inr ⟨rfl,fun E w v h => by cases h; rfl⟩)
theorem le_bool (b : Bool) : leA .cell (.bool b) := .inr (.inr ⟨rfl,fun E w v h => by cases h; rfl⟩)
theorem typed_where {us : List V} (h : Typed 1048576 (goodT 1048576) [.sl .grp,.sl .int,.sl .tbl,.sl .lim,.sl .glob,.sl .int,.sl .vt,.i .i64,.sl .bool,.sl .vt,.sl .vt,.sl .vt,.sl .lvt,.sl .vt,.b] us) :
    ∃ w : Wh,leL (wC w) us ∧ Gw w ∧ w.sk.length ≤ 1048576 := by
 obtain ⟨u0,us,rfl,h0,h⟩ := h.uncons;obtain ⟨u1,us,rfl,h1,h⟩ := h.uncons;obtain ⟨u2,us,rfl,h2,h⟩ := h.uncons;obtain ⟨u3,us,rfl,h3,h⟩ := h.uncons;obtain ⟨u4,us,rfl,h4,h⟩ := h.uncons;obtain ⟨u5,us,rfl,h5,h⟩ := h.uncons;obtain ⟨u6,us,rfl,h6,h⟩ := h.uncons;obtain ⟨u7,us,rfl,h7,h⟩ := h.uncons;obtain ⟨u8,us,rfl,h8,h⟩ := h.uncons;obtain ⟨u9,us,rfl,h9,h⟩ := h.uncons;obtain ⟨u10,us,rfl,h10,h⟩ := h.uncons;obtain ⟨u11,us,rfl,h11,h⟩ := h.uncons;obtain ⟨u12,us,rfl,h12,h⟩ := h.uncons;obtain ⟨u13,us,rfl,h13,h⟩ := h.uncons;obtain ⟨u14,us,rfl,h14,h⟩ := h.uncons;obtain rfl := h.unnil;obtain ⟨l,rfl,hl,hg⟩ := h0.sl;obtain ⟨fu,rfl,_,_⟩ := h1.sl;obtain ⟨x2,rfl,_,_⟩ := h2.sl;obtain ⟨x3,rfl,_,_⟩ := h3.sl;obtain ⟨x4,rfl,_,_⟩ := h4.sl;obtain ⟨x5,rfl,_,_⟩ := h5.sl;obtain ⟨el,rfl,_,_⟩ := h6.sl;obtain ⟨da,rfl,_⟩ := h7.int;obtain ⟨rf,rfl,_,_⟩ := h8.sl;obtain ⟨ps,rfl,hp,_⟩ := h9.sl;obtain ⟨ls,rfl,hls,_⟩ := h10.sl;obtain ⟨rs,rfl,hr,_⟩ := h11.sl;obtain ⟨dp,rfl,hdl,hd⟩ := h12.sl;obtain ⟨sk,rfl,hk,_⟩ := h13.sl;obtain ⟨dead,rfl⟩ := h14.bool;refine ⟨⟨⟨l,fu,el,da,rf⟩,ps,ls,rs,dp,sk,dead⟩,⟨.inl rfl,.inl rfl,le_imm _,le_imm _,le_imm _,le_imm _,.inl rfl,.inl rfl,.inl rfl,.inl rfl,.inl rfl,.inl rfl,.inl rfl,.inl rfl,.inl rfl,trivial⟩,⟨hl,hg,hp,hls,hr,hdl,fun b hb => ?_,Nat.le_trans hk (show (1048576 : Nat) ≤ 2097152 by decide)⟩,hk⟩;obtain ⟨q,h1,h2,_⟩ := hd b hb;exact ⟨q,h1,h2⟩
theorem typed_instr {us : List V} (h : Typed 1048576 (goodT 1048576) [.i .i64,.i .u32,.i .u32,.i .u64,.i .u32,.i .u32,.i .u64,.i .i64,.i .i64,.b,.i .i64,.sl .instr,.sl .instr,.b,.sl .u32,.sl .vt,.sl .catch] us) :
    ∃ i : In,leL (iC i) us ∧ Gi i := by
 obtain ⟨u0,us,rfl,h0,h⟩ := h.uncons;obtain ⟨u1,us,rfl,h1,h⟩ := h.uncons;obtain ⟨u2,us,rfl,h2,h⟩ := h.uncons;obtain ⟨u3,us,rfl,h3,h⟩ := h.uncons;obtain ⟨u4,us,rfl,h4,h⟩ := h.uncons;obtain ⟨u5,us,rfl,h5,h⟩ := h.uncons;obtain ⟨u6,us,rfl,h6,h⟩ := h.uncons;obtain ⟨u7,us,rfl,h7,h⟩ := h.uncons;obtain ⟨u8,us,rfl,h8,h⟩ := h.uncons;obtain ⟨u9,us,rfl,h9,h⟩ := h.uncons;obtain ⟨u10,us,rfl,h10,h⟩ := h.uncons;obtain ⟨u11,us,rfl,h11,h⟩ := h.uncons;obtain ⟨u12,us,rfl,h12,h⟩ := h.uncons;obtain ⟨u13,us,rfl,h13,h⟩ := h.uncons;obtain ⟨u14,us,rfl,h14,h⟩ := h.uncons;obtain ⟨u15,us,rfl,h15,h⟩ := h.uncons;obtain ⟨u16,us,rfl,h16,h⟩ := h.uncons;obtain rfl := h.unnil;obtain ⟨op,rfl,_⟩ := h0.int;obtain ⟨x,rfl,wx⟩ := h1.int;obtain ⟨y,rfl,wy⟩ := h2.int;obtain ⟨n,rfl,wn⟩ := h3.int;obtain ⟨x4,rfl,_⟩ := h4.int;obtain ⟨x5,rfl,_⟩ := h5.int;obtain ⟨x6,rfl,_⟩ := h6.int;obtain ⟨x7,rfl,_⟩ := h7.int;obtain ⟨x8,rfl,_⟩ := h8.int;obtain ⟨x9,rfl⟩ := h9.bool;obtain ⟨x10,rfl,_⟩ := h10.int;obtain ⟨x11,rfl,_,_⟩ := h11.sl;obtain ⟨x12,rfl,_,_⟩ := h12.sl;obtain ⟨x13,rfl⟩ := h13.bool;obtain ⟨x14,rfl,_,_⟩ := h14.sl;obtain ⟨ty,rfl,ht,_⟩ := h15.sl;obtain ⟨x16,rfl,_,_⟩ := h16.sl;refine ⟨⟨op,x,y,n,ty⟩,⟨.inl rfl,.inl rfl,.inl rfl,.inl rfl,le_int _,le_int _,le_int _,le_int _,le_int _,le_bool _,le_int _,le_imm _,le_imm _,le_bool _,le_imm _,.inl rfl,le_imm _,trivial⟩,⟨?_,?_,?_,by show ty.length ≤ _; omega⟩⟩
 · exact lit_wf_int wx
 · exact lit_wf_int wy
 · exact (lit_wf_int wn).1
end Ck
end Sh
end Go.Proofs.YtomdfaelgcefdaaGreatDoor
