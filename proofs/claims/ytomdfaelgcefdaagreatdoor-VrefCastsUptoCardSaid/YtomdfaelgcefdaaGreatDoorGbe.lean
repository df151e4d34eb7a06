/- Bg LwA LwB LwC LwD LwE LwF Arg. -/
import Derived.Test.YtomdfaelgcefdaaGreatDoorRows
import Derived.Test.YtomdfaelgcefdaaGreatDoorGbd
set_option maxRecDepth 100000
set_option maxHeartbeats 64000000
namespace Go.Proofs.YtomdfaelgcefdaaGreatDoor
open Go
namespace Sh
namespace Ck
structure Wh where
 c : Cx
 ps : List El_vt
 ls : List El_vt
 rs : List El_vt
 dp : List (Option (List El_vt))
 sk : List El_vt
 dead : Bool
def wC (w : Wh) : List V := [.imm .grp w.c.l,.imm .int w.c.fu,.cell,.cell,.cell,.cell,.imm .vt w.c.el,.int .i64 w.c.da,.imm .bool w.c.rf,.imm .vt w.ps,.imm .vt w.ls,.imm .vt w.rs,.imm .lvt w.dp,.imm .vt w.sk,.bool w.dead]
structure Gw (w : Wh) : Prop where
 hl : w.c.l.length ≤ 1048576
 hg : ∀ g ∈ w.c.l,good_grp 1048576 g
 hp : w.ps.length ≤ 1048576
 hls : w.ls.length ≤ 1048576
 hr : w.rs.length ≤ 1048576
 hdl : w.dp.length ≤ 1048576
 hd : ∀ b ∈ w.dp,∃ q,b = some q ∧ q.length ≤ 1048576
 hk : w.sk.length ≤ 2097152
def loW (w : Wh) : List El_vt := w.ps ++ w.ls
def seW (w : Wh) : List Bool := nwSe w.ps.length (loW w) (loW w).length
def frN (w : Wh) (j : Nat) : List El_frame := mkF 2 0 none w.rs (seW w) false :: (w.dp.take j).map fun b => mkF 2 0 (some []) (b.getD []) (seW w) false
def deadL (fr : List El_frame) : List El_frame := fr.dropLast ++ (match fr.getLast? with | some f => [deadF f] | none => [])
def frW (w : Wh) : List El_frame := if w.dead = true then deadL (frN w w.dp.length) else frN w w.dp.length
theorem frN_last (w : Wh) (j : Nat) : ∃ fs f,frN w j = fs ++ [f] ∧ f.height = 0 ∧ fs.length = (frN w j).length - 1 := by
 have hne : frN w j ≠ [] := by unfold frN; simp
 refine ⟨(frN w j).dropLast,(frN w j).getLast hne,(List.dropLast_concat_getLast hne).symm,?_,by simp⟩
 have hall : ∀ f ∈ frN w j,f.height = 0 := by
  intro f hf;unfold frN at hf
  rcases List.mem_cons.1 hf with rfl | hf
  · rfl
  · obtain ⟨b,_,rfl⟩ := List.mem_map.1 hf;rfl
 exact hall _ (List.getLast_mem hne)
def rkC6 (l : List El_grp) (nl ns : Nat) (o : List El_vt) (O F : V) : AO KT ElT := .cells [.imm .grp l,.own .vt 7 0 nl .whole,.own .bool 8 0 ns .whole,O,F,.imm .vt o]
def bgH (w : Wh) (fr : List El_frame) (lo : List El_vt) (se : List Bool) (fr2 : List El_rframe) (D : Cp) : Heap KT ElT :=
 ck w.c.l (loW w) (seW w) w.rs 0 .whole [] fr ++ [rkC6 w.c.l lo.length se.length w.rs (.own .vt 9 0 0 .whole) (.own .rframe 10 0 fr2.length D),.row .vt lo,.row .bool se,.row .vt [],.row .rframe fr2,.cells (wC w)]
def bgV (j : Int) : List V := [.ptr 11 0,.ptr 0 0,.ptr 6 0,.int .i64 j]
theorem c_begin0 (w : Wh) (G : Gw w) : Spec S 27 [.agg (wC w)] [] (fun r H => r = .tup [.ptr 0 0,.cell] ∧ ∃ C op,w.sk.length ≤ op.length ∧ C ≠ .unk ∧ op.take w.sk.length = w.sk ∧ H = ck w.c.l (loW w) (seW w) w.rs w.sk.length C op (frW w)) := by
 obtain ⟨fs,f,hfs0,hfh,hfsl⟩ := frN_last w w.dp.length;unfold frW;obtain ⟨c,ps,ls,rs,dp,sk,dead⟩ := w;simp only at hfs0 hfsl;have kN := c_New c.l ps ls rs G.hl G.hg G.hp G.hls G.hr;have kR := c_rNew c.l ps ls rs G.hp G.hls G.hr;have hlol : (loW ⟨c,ps,ls,rs,dp,sk,dead⟩).length ≤ 2097152 := by have := G.hp; have := G.hls; simp [loW] at *; omega
 have hsel : (seW ⟨c,ps,ls,rs,dp,sk,dead⟩).length ≤ 2097152 := by unfold seW; rw [nwSe_len]; exact hlol
 obtain ⟨hl,hg,hp,hls,hr,hdl,hdd,hk⟩ := G;simp only at hl hg hp hls hr hdl hdd hk kN kR;refine specE ok sh27 rfl ?_;(conv=>whnf);refine cQ [] kN ?_;(conv=>whnf);refine rQ [] kR ?_;rintro r H' ⟨rfl,lo,se,hlo,hse,rfl⟩;conv=>whnf
 refine loop_of [] [1,2,3,4,5,6,7,8,9,10,11,0] (fun vs H => ∃ (j : Nat) (fr2 : List El_rframe) (D : Cp),j ≤ dp.length ∧ D ≠ .unk ∧ fr2.length = j + 1 ∧ (∀ f ∈ fr2,NrF f) ∧ vs = bgV j ∧ H = bgH ⟨c,ps,ls,rs,dp,sk,dead⟩ (frN ⟨c,ps,ls,rs,dp,sk,dead⟩ j) lo se fr2 D)
  (fun vs _ => match vs with | [_,_,_,.int _ j] => dp.length - j.toNat | _ => 0) (by rfl) (by rfl) (by rfl) (by rfl) ⟨0,[⟨2,none,some rs,0,some se,false⟩],.full,Nat.zero_le _,by decide,rfl,?_,rfl,rfl⟩ ?_
 · intro f hf;simp only [List.mem_singleton] at hf;subst hf;exact ⟨⟨rs,rfl⟩,⟨se,rfl⟩,rfl⟩
 rintro vs H1 ⟨j,fr2,D,hj,hD,hf2,hfp,rfl,rfl⟩;have hfl : (frN ⟨c,ps,ls,rs,dp,sk,dead⟩ j).length = j + 1 := by simp [frN]; omega
 cases D with
 | unk => exact absurd rfl hD
 | full =>
  (conv=>whnf);cases hd : decide ((j : Int) < dp.length)
  · (conv=>whnf);have := of_decide_eq_false hd;obtain rfl : j = dp.length := by omega
    have hdead : deadL (fs ++ [f]) = fs ++ [deadF f] := by simp [deadL]
    have hskl : sk.length ≤ 16000000 := by omega
    have kP := c_Pushes (l := c.l) (lo := loW ⟨c,ps,ls,rs,dp,sk,dead⟩) (se := seW ⟨c,ps,ls,rs,dp,sk,dead⟩) (re := rs) (op := []) (fr := frN ⟨c,ps,ls,rs,dp,sk,dead⟩ dp.length) (m := 0) (C := .whole) (by decide) (by omega) (by simp) (by omega) sk hskl;have kQ := c_rPushes (l := c.l) (lo := lo) (se := se) (o := rs) (st := []) (m := 0) (C := .whole) (fr := fr2) (D := .full) ⟨by decide,by decide,by omega,by omega,hr,by simp,by omega,by omega,by omega,hfp⟩ sk hk (by omega);rw [hfs0] at hfl kP ⊢;rw [hdead];refine rQ [0,1,2,3,4,5] kP ?_;rintro r H' ⟨rfl,m2,C2,op2,hm2,hC2,ho2,rfl⟩
    have hml : m2 = sk.length := by
     have := congrArg List.length ho2;simp at this;omega
    subst hml;have ho2 : op2.take sk.length = sk := by simpa using ho2
    have kU := fun C2 => c_Unr (l := c.l) (lo := loW ⟨c,ps,ls,rs,dp,sk,dead⟩) (se := seW ⟨c,ps,ls,rs,dp,sk,dead⟩) (re := rs) (op := op2) (fs := fs) (f := f) (m := sk.length) (C := C2) (h := 0) (by simp at hfl; omega) hfh (Nat.zero_le _);have kP2 := c_Pushes (l := c.l) (lo := loW ⟨c,ps,ls,rs,dp,sk,dead⟩) (se := seW ⟨c,ps,ls,rs,dp,sk,dead⟩) (re := rs) (op := op2) (fr := fs ++ [deadF f]) (m := 0) (C := .full) (by decide) (by simp) (by omega) (by omega) sk hskl;cases C2;all_goals try exact absurd rfl hC2
    all_goals
     (conv=>whnf);refine rQ [6,7,8,9,10] kQ ?_;rintro r H' ⟨rfl,st',C',hC',hst,rfl⟩;have kV := c_rUnr (l := c.l) (lo := lo) (se := se) (o := rs) (st := st') (m := 0 + sk.length) (C := C') (fr := fr2) (D := .full) ⟨hC',by decide,by omega,by omega,hr,hst,by omega,by omega,by omega,hfp⟩;cases C';all_goals try exact absurd rfl hC'
     all_goals
      (conv=>whnf);cases dead
      · (conv=>whnf);exact eQ [0,1,2,3,12,5] ⟨rfl,_,op2,hm2,hC2,ho2,rfl⟩
      · (conv=>whnf);refine cQ [0,1,2,3,12,5] ((kU _)) ?_;(conv=>whnf);refine rQ [6,7,8,13,10] kV ?_;rintro r H' ⟨rfl,fr3,hf3,hfp3,rfl⟩;(conv=>whnf);refine rQ [0,1,2,3,12,5] kP2 ?_;rintro r H' ⟨rfl,m3,C3,op3,hm3,hC3,ho3,rfl⟩
        have hml3 : m3 = sk.length := by
         have := congrArg List.length ho3;simp at this;omega
        subst hml3;have ho3 : op3.take sk.length = sk := by simpa using ho3
        have kQ2 := c_rPushes (l := c.l) (lo := lo) (se := se) (o := rs) (st := []) (m := 0) (C := .whole) (fr := fr3) (D := .whole) ⟨by decide,by decide,by omega,by omega,hr,by simp,by omega,by omega,by omega,hfp3⟩ sk hk (by omega);cases C3;all_goals try exact absurd rfl hC3
        all_goals
         (conv=>whnf);refine rQ [6,7,8,14,15] kQ2 ?_;rintro r H' ⟨rfl,st4,C4,hC4,hst4,rfl⟩;cases C4;all_goals try exact absurd rfl hC4
         all_goals
          (conv=>whnf);exact eQ [0,1,2,3,16,5] ⟨rfl,_,op3,hm3,hC3,ho3,rfl⟩
  · (conv=>whnf);have hlt := of_decide_eq_true hd;have hw : IntKind.i64.wrap ((j : Int) + 1) = ((j + 1 : Nat) : Int) := wrap_i64 (by omega) (by omega);have hx := getD_at (show j < dp.length by omega) (S.zero .lvt);obtain ⟨b,hb,hbl⟩ := hdd _ (List.mem_of_getElem? hx)
    have hfs : frN ⟨c,ps,ls,rs,dp,sk,dead⟩ (j + 1) = frN ⟨c,ps,ls,rs,dp,sk,dead⟩ j ++ [mkF 2 0 (some []) b (seW ⟨c,ps,ls,rs,dp,sk,dead⟩) false] := by
     unfold frN;simp only;rw [List.take_add_one,hx,hb];simp
    have kE := c_Enter (l := c.l) (lo := loW ⟨c,ps,ls,rs,dp,sk,dead⟩) (se := seW ⟨c,ps,ls,rs,dp,sk,dead⟩) (re := rs) (op := []) (fr := frN ⟨c,ps,ls,rs,dp,sk,dead⟩ j) (m := 0) (C := .whole) (by omega) (by omega) 2 b hbl (by omega);have kF := c_rEnter (l := c.l) (lo := lo) (se := se) (o := rs) (st := []) (C := .whole) (fr := fr2) (D := .full) ⟨by decide,by decide,by omega,by omega,hr,by simp,by omega,by omega,by omega,hfp⟩ 2 b hbl (by omega);have hlt2 : ∀ k : Nat,(j : Int).toNat < dp.length := fun _ => by omega
    refine ⟨rfl,by omega,by omega,?_⟩;(conv=>whnf);refine ⟨hlt2 0,by decide,?_⟩;rw [show dp.getD (Int.toNat (j : Int)) (S.zero .lvt) = some b by rw [Int.toNat_natCast,← hb]];(conv=>whnf);refine cQ [0,1,2,3,4,5] kE ?_;(conv=>whnf);refine ⟨rfl,by omega,by omega,?_⟩;(conv=>whnf);refine ⟨hlt2 0,by decide,?_⟩;rw [show dp.getD (Int.toNat (j : Int)) (S.zero .lvt) = some b by rw [Int.toNat_natCast,← hb]];(conv=>whnf);refine cQ [6,7,8,9,10] kF ?_;(conv=>whnf);refine ⟨[0,1,2,3,4,12,6,7,8,9,13,11],[],relo_of [0,1,2,3,4,12,6,7,8,9,13,11] (by rfl) (by rfl),?_⟩;refine ⟨⟨j + 1,fr2 ++ [⟨2,some [],some b,0,some se,false⟩],.whole,by omega,by decide,?_,?_,congrArg bgV hw,?_⟩,?_⟩
    rotate_left 2
    · rw [hfs]; rfl
    · show dp.length - (IntKind.i64.wrap ((j : Int) + 1)).toNat < dp.length - (j : Int).toNat;rw [hw]; omega
    · simp; omega
    · intro f hf
      rcases List.mem_append.1 hf with h | h
      · exact hfp f h
      · simp only [List.mem_singleton] at h; subst h; exact ⟨⟨b,rfl⟩,⟨se,rfl⟩,rfl⟩
 | whole =>
  (conv=>whnf);cases hd : decide ((j : Int) < dp.length)
  · (conv=>whnf);have := of_decide_eq_false hd;obtain rfl : j = dp.length := by omega
    have hdead : deadL (fs ++ [f]) = fs ++ [deadF f] := by simp [deadL]
    have hskl : sk.length ≤ 16000000 := by omega
    have kP := c_Pushes (l := c.l) (lo := loW ⟨c,ps,ls,rs,dp,sk,dead⟩) (se := seW ⟨c,ps,ls,rs,dp,sk,dead⟩) (re := rs) (op := []) (fr := frN ⟨c,ps,ls,rs,dp,sk,dead⟩ dp.length) (m := 0) (C := .whole) (by decide) (by omega) (by simp) (by omega) sk hskl;have kQ := c_rPushes (l := c.l) (lo := lo) (se := se) (o := rs) (st := []) (m := 0) (C := .whole) (fr := fr2) (D := .whole) ⟨by decide,by decide,by omega,by omega,hr,by simp,by omega,by omega,by omega,hfp⟩ sk hk (by omega);rw [hfs0] at hfl kP ⊢;rw [hdead];refine rQ [0,1,2,3,4,5] kP ?_;rintro r H' ⟨rfl,m2,C2,op2,hm2,hC2,ho2,rfl⟩
    have hml : m2 = sk.length := by
     have := congrArg List.length ho2;simp at this;omega
    subst hml;have ho2 : op2.take sk.length = sk := by simpa using ho2
    have kU := fun C2 => c_Unr (l := c.l) (lo := loW ⟨c,ps,ls,rs,dp,sk,dead⟩) (se := seW ⟨c,ps,ls,rs,dp,sk,dead⟩) (re := rs) (op := op2) (fs := fs) (f := f) (m := sk.length) (C := C2) (h := 0) (by simp at hfl; omega) hfh (Nat.zero_le _);have kP2 := c_Pushes (l := c.l) (lo := loW ⟨c,ps,ls,rs,dp,sk,dead⟩) (se := seW ⟨c,ps,ls,rs,dp,sk,dead⟩) (re := rs) (op := op2) (fr := fs ++ [deadF f]) (m := 0) (C := .full) (by decide) (by simp) (by omega) (by omega) sk hskl;cases C2;all_goals try exact absurd rfl hC2
    all_goals
     (conv=>whnf);refine rQ [6,7,8,9,10] kQ ?_;rintro r H' ⟨rfl,st',C',hC',hst,rfl⟩;have kV := c_rUnr (l := c.l) (lo := lo) (se := se) (o := rs) (st := st') (m := 0 + sk.length) (C := C') (fr := fr2) (D := .whole) ⟨hC',by decide,by omega,by omega,hr,hst,by omega,by omega,by omega,hfp⟩;cases C';all_goals try exact absurd rfl hC'
     all_goals
      (conv=>whnf);cases dead
      · (conv=>whnf);exact eQ [0,1,2,3,12,5] ⟨rfl,_,op2,hm2,hC2,ho2,rfl⟩
      · (conv=>whnf);refine cQ [0,1,2,3,12,5] ((kU _)) ?_;(conv=>whnf);refine rQ [6,7,8,13,10] kV ?_;rintro r H' ⟨rfl,fr3,hf3,hfp3,rfl⟩;(conv=>whnf);refine rQ [0,1,2,3,12,5] kP2 ?_;rintro r H' ⟨rfl,m3,C3,op3,hm3,hC3,ho3,rfl⟩
        have hml3 : m3 = sk.length := by
         have := congrArg List.length ho3;simp at this;omega
        subst hml3;have ho3 : op3.take sk.length = sk := by simpa using ho3
        have kQ2 := c_rPushes (l := c.l) (lo := lo) (se := se) (o := rs) (st := []) (m := 0) (C := .whole) (fr := fr3) (D := .whole) ⟨by decide,by decide,by omega,by omega,hr,by simp,by omega,by omega,by omega,hfp3⟩ sk hk (by omega);cases C3;all_goals try exact absurd rfl hC3
        all_goals
         (conv=>whnf);refine rQ [6,7,8,14,15] kQ2 ?_;rintro r H' ⟨rfl,st4,C4,hC4,hst4,rfl⟩;cases C4;all_goals try exact absurd rfl hC4
         all_goals
          (conv=>whnf);exact eQ [0,1,2,3,16,5] ⟨rfl,_,op3,hm3,hC3,ho3,rfl⟩
  · (conv=>whnf);have hlt := of_decide_eq_true hd;have hw : IntKind.i64.wrap ((j : Int) + 1) = ((j + 1 : Nat) : Int) := wrap_i64 (by omega) (by omega);have hx := getD_at (show j < dp.length by omega) (S.zero .lvt);obtain ⟨b,hb,hbl⟩ := hdd _ (List.mem_of_getElem? hx)
    have hfs : frN ⟨c,ps,ls,rs,dp,sk,dead⟩ (j + 1) = frN ⟨c,ps,ls,rs,dp,sk,dead⟩ j ++ [mkF 2 0 (some []) b (seW ⟨c,ps,ls,rs,dp,sk,dead⟩) false] := by
     unfold frN;simp only;rw [List.take_add_one,hx,hb];simp
    have kE := c_Enter (l := c.l) (lo := loW ⟨c,ps,ls,rs,dp,sk,dead⟩) (se := seW ⟨c,ps,ls,rs,dp,sk,dead⟩) (re := rs) (op := []) (fr := frN ⟨c,ps,ls,rs,dp,sk,dead⟩ j) (m := 0) (C := .whole) (by omega) (by omega) 2 b hbl (by omega);have kF := c_rEnter (l := c.l) (lo := lo) (se := se) (o := rs) (st := []) (C := .whole) (fr := fr2) (D := .whole) ⟨by decide,by decide,by omega,by omega,hr,by simp,by omega,by omega,by omega,hfp⟩ 2 b hbl (by omega);have hlt2 : ∀ k : Nat,(j : Int).toNat < dp.length := fun _ => by omega
    refine ⟨rfl,by omega,by omega,?_⟩;(conv=>whnf);refine ⟨hlt2 0,by decide,?_⟩;rw [show dp.getD (Int.toNat (j : Int)) (S.zero .lvt) = some b by rw [Int.toNat_natCast,← hb]];(conv=>whnf);refine cQ [0,1,2,3,4,5] kE ?_;(conv=>whnf);refine ⟨rfl,by omega,by omega,?_⟩;(conv=>whnf);refine ⟨hlt2 0,by decide,?_⟩;rw [show dp.getD (Int.toNat (j : Int)) (S.zero .lvt) = some b by rw [Int.toNat_natCast,← hb]];(conv=>whnf);refine cQ [6,7,8,9,10] kF ?_;(conv=>whnf);refine ⟨[0,1,2,3,4,12,6,7,8,9,13,11],[],relo_of [0,1,2,3,4,12,6,7,8,9,13,11] (by rfl) (by rfl),?_⟩;refine ⟨⟨j + 1,fr2 ++ [⟨2,some [],some b,0,some se,false⟩],.whole,by omega,by decide,?_,?_,congrArg bgV hw,?_⟩,?_⟩
    rotate_left 2
    · rw [hfs]; rfl
    · show dp.length - (IntKind.i64.wrap ((j : Int) + 1)).toNat < dp.length - (j : Int).toNat;rw [hw]; omega
    · simp; omega
    · intro f hf
      rcases List.mem_append.1 hf with h | h
      · exact hfp f h
      · simp only [List.mem_singleton] at h; subst h; exact ⟨⟨b,rfl⟩,⟨se,rfl⟩,rfl⟩
end Ck
end Sh
end Go.Proofs.YtomdfaelgcefdaaGreatDoor
namespace Go.Proofs.YtomdfaelgcefdaaGreatDoor
open Go
namespace Sh
namespace Ck
def hpV (q : List El_vt) (n : Nat) (j : Int) : List V := [.imm .vt q,.own .int 0 0 n .whole,.int .i64 j]
theorem c_heaps (q : List El_vt) (hq : q.length ≤ 1048576) : Spec S 181 [.imm .vt q] [] fun r H => ∃ xs : List Int,xs.length ≤ q.length ∧ r = .own .int 0 0 xs.length .whole ∧ H = [.row .int xs] := by
 refine specE ok sh181 rfl ?_;conv=>whnf
 refine loop_of [.slot 3 .int] [0] (fun vs H => ∃ (j : Nat) (xs : List Int),j ≤ q.length ∧ xs.length ≤ j ∧ vs = hpV q xs.length j ∧ H = [.row .int xs])
  (fun vs _ => match vs with | [_,_,.int _ j] => q.length - j.toNat | _ => 0) (by rfl) (by rfl) (by rfl) (by rfl) ⟨0,[],Nat.zero_le _,Nat.le_refl _,rfl,rfl⟩ ?_
 rintro vs H1 ⟨j,xs,hj,hx,rfl,rfl⟩;(conv=>whnf);cases hd : decide ((j : Int) < q.length)
 · (conv=>whnf);exact eQ [0] ⟨xs,by omega,rfl,rfl⟩
 · (conv=>whnf);have hlt := of_decide_eq_true hd;have hw : IntKind.i64.wrap ((j : Int) + 1) = ((j + 1 : Nat) : Int) := wrap_i64 (by omega) (by omega);have hm : q.length - (IntKind.i64.wrap ((j : Int) + 1)).toNat < q.length - (j : Int).toNat := by rw [hw]; omega
   refine ⟨rfl,by omega,by omega,?_⟩;(conv=>whnf);refine ⟨by rw [Int.toNat_natCast]; omega,by decide,?_⟩;generalize hz : q.getD (Int.toNat (j : Int)) (S.zero .vt) = z;obtain ⟨zn,zu,zh⟩ := z;(conv=>whnf);cases h5 : (zn == 5)
   · (conv=>whnf);refine ⟨[0],[],relo_of [0] (by rfl) (by rfl),?_⟩;exact ⟨⟨j + 1,xs,by omega,by omega,congrArg (hpV q xs.length) hw,rfl⟩,hm⟩
   · (conv=>whnf);refine ⟨rfl,by omega,by omega,?_⟩;(conv=>whnf);refine ⟨by rw [Int.toNat_natCast]; omega,by decide,?_⟩;rw [hz];(conv=>whnf);refine ⟨rfl,by simp,?_⟩;(conv=>whnf);refine ⟨rfl,by show 0 + xs.length ≤ xs.length; omega,fits_big (by show xs.length + 1 ≤ _; omega) (by decide),rfl,?_⟩;(conv=>whnf);refine ⟨[2],[],relo_of [2] (by rfl) (by rfl),?_⟩;refine ⟨⟨j + 1,xs ++ [zh],by omega,by simp; omega,?_,?_⟩,hm⟩
     · show [AV.imm KT.vt q,.own .int 0 0 (xs.length + 1) .whole,.int .i64 (IntKind.i64.wrap ((j : Int) + 1))] = hpV q (xs ++ [zh]).length ((j + 1 : Nat) : Int);rw [hw,show (xs ++ [zh]).length = xs.length + 1 by simp];rfl
     · conv => rhs; rw [← List.take_length (l := xs)]
       rfl
theorem c_heapsO (v : El_vt) : Spec S 181 [.own .vt 0 0 1 .full] [.row .vt [v]] fun r H => ∃ xs : List Int,xs.length ≤ 1 ∧ r = .own .int 1 0 xs.length .whole ∧ H = [.gone,.row .int xs] := by
 refine Spec.relo ok [] [0] (by rfl) ⟨⟨rfl,by simp⟩,trivial⟩ trivial (c_heaps [v] (by simp)) ?_;rintro r H' ⟨xs,h1,rfl,rfl⟩;exact ⟨1,[1,0],rfl,rfl,xs,by simpa using h1,rfl,rfl⟩
def alV (n : Nat) (j : Int) : List V := [.ptr 0 0,.own .int 1 0 n .whole,.int .i64 j]
theorem c_All (s : El_sub) (hs : good_sub 1048576 s) : Spec S 148 [.agg (enc_sub s)] [] fun r H => ∃ xs : List Int,xs.length ≤ 8388608 ∧ r = .own .int 0 0 xs.length .whole ∧ H = [.row .int xs] := by
 obtain ⟨fi,sa,sk,sp,sr,sf⟩ := s;obtain ⟨⟨a,ha0,hal,hag⟩,hk,⟨p,hp0,hpl,hpg⟩,⟨r,hr0,hrl,hrg⟩,⟨f,hf0,hfl,hfg⟩⟩ := hs;simp only at ha0 hk hp0 hr0 hf0;subst ha0 hp0 hr0 hf0;refine specE ok sh148 rfl ?_;(conv=>whnf);refine ⟨fits_big (by show a.length ≤ _; omega) (by decide),?_⟩;(conv=>whnf);refine rQ [] (c_heaps p hpl) ?_;rintro r1 H' ⟨x1,h1,rfl,rfl⟩;(conv=>whnf);refine ⟨rfl,by omega,?_⟩;(conv=>whnf);refine ⟨rfl,by show 0 + a.length ≤ a.length; omega,fits_big (by show a.length + ((x1.drop 0).take x1.length).length ≤ _; simp; omega) (by decide),rfl,?_⟩;(conv=>whnf);refine rQ [] (c_heaps r hrl) ?_;rintro r2 H' ⟨x2,h2,rfl,rfl⟩;(conv=>whnf);refine ⟨rfl,by omega,?_⟩;(conv=>whnf);refine ⟨rfl,by show 0 + (a.length + ((x1.drop 0).take x1.length).length) ≤ (a.take a.length ++ (x1.drop 0).take x1.length).length; simp,fits_big (by show a.length + ((x1.drop 0).take x1.length).length + ((x2.drop 0).take x2.length).length ≤ _; simp; omega) (by decide),rfl,?_⟩;conv=>whnf
 refine loop_of [] [0,5] (fun vs H => ∃ (j n : Nat) (xs : List Int),j ≤ f.length ∧ n = xs.length ∧ n ≤ 4194304 + j ∧ vs = alV n j ∧ H = [.cells (enc_sub ⟨fi,some a,sk,some p,some r,some f⟩),.row .int xs])
  (fun vs _ => match vs with | [_,_,.int _ j] => f.length - j.toNat | _ => 0) (by rfl) (by rfl) (by rfl) (by rfl) ⟨0,a.length + ((x1.drop 0).take x1.length).length + ((x2.drop 0).take x2.length).length,_,Nat.zero_le _,?_,?_,rfl,rfl⟩ ?_
 · simp
 · simp; omega
 rintro vs H1 ⟨j,n,xs,hj,hn,hnb,rfl,rfl⟩;(conv=>whnf);cases hd : decide ((j : Int) < f.length)
 · (conv=>whnf);refine eQ [1] ⟨xs,by omega,?_,rfl⟩;rw [← hn];rfl
 · (conv=>whnf);have hlt := of_decide_eq_true hd;have hw : IntKind.i64.wrap ((j : Int) + 1) = ((j + 1 : Nat) : Int) := wrap_i64 (by omega) (by omega);refine ⟨rfl,by omega,by omega,?_⟩;(conv=>whnf);refine ⟨by rw [Int.toNat_natCast]; omega,by decide,?_⟩;generalize f.getD (Int.toNat (j : Int)) (S.zero .fld) = z;(conv=>whnf);refine rQ [2] (c_heapsO (tyF z)) ?_;rintro r3 H' ⟨x3,h3,rfl,rfl⟩;(conv=>whnf);refine ⟨rfl,by omega,?_⟩;(conv=>whnf);refine ⟨rfl,by show 0 + n ≤ xs.length; omega,fits_big (by show n + ((x3.drop 0).take x3.length).length ≤ _; simp; omega) (by decide),rfl,?_⟩;(conv=>whnf);refine ⟨[0,4],[],relo_of [0,4] (by rfl) (by rfl),?_⟩;refine ⟨⟨j + 1,n + ((x3.drop 0).take x3.length).length,xs.take n ++ (x3.drop 0).take x3.length,by omega,?_,?_,?_,rfl⟩,?_⟩
   · simp; omega
   · simp; omega
   · show [AV.ptr 0 0,.own .int 1 0 (n + ((x3.drop 0).take x3.length).length) .whole,.int .i64 (IntKind.i64.wrap ((j : Int) + 1))] = alV (n + ((x3.drop 0).take x3.length).length) ((j + 1 : Nat) : Int);rw [hw];rfl
   · show f.length - (IntKind.i64.wrap ((j : Int) + 1)).toNat < f.length - (j : Int).toNat;rw [hw]; omega
def fnV (e : Int) (j : Int) : List V := [.int .i64 e,.ptr 0 0,.int .i64 j]
def fnW (e : Int) (n : Nat) (j : Int) : List V := [.int .i64 e,.own .int 0 0 n .whole,.int .i64 j]
theorem c_fine (s : El_sub) (hs : good_sub 1048576 s) (e : Int) : Spec S 111 [.agg (enc_sub s),.int .i64 e] [] fun r H => ∃ b,r = .bool b ∧ H = [] := by
 have kA := c_All s hs;obtain ⟨fi,sa,sk,sp,sr,sf⟩ := s;obtain ⟨⟨a,ha0,hal,hag⟩,hk,⟨p,hp0,hpl,hpg⟩,⟨r,hr0,hrl,hrg⟩,⟨f,hf0,hfl,hfg⟩⟩ := hs;simp only at ha0 hk hp0 hr0 hf0;subst ha0 hp0 hr0 hf0;refine specE ok sh111 rfl ?_;conv=>whnf
 refine loop_of [] [0] (fun vs H => ∃ j : Nat,j ≤ a.length ∧ vs = fnV e j ∧ H = [.cells (enc_sub ⟨fi,some a,sk,some p,some r,some f⟩)])
  (fun vs _ => match vs with | [_,_,.int _ j] => a.length - j.toNat | _ => 0) (by rfl) (by rfl) (by rfl) (by rfl) ⟨0,Nat.zero_le _,rfl,rfl⟩ ?_
 rintro vs H1 ⟨j,hj,rfl,rfl⟩;(conv=>whnf);cases hd : decide ((j : Int) < a.length)
 · (conv=>whnf);refine rQ [] kA ?_;rintro r2 H' ⟨xs,hx,rfl,rfl⟩;conv=>whnf
   refine loop_of [] [1] (fun vs H => ∃ j : Nat,j ≤ xs.length ∧ vs = fnW e xs.length j ∧ H = [.row .int xs])
    (fun vs _ => match vs with | [_,_,.int _ j] => xs.length - j.toNat | _ => 0) (by rfl) (by rfl) (by rfl) (by rfl) ⟨0,Nat.zero_le _,rfl,rfl⟩ ?_
   rintro vs H1 ⟨j,hj,rfl,rfl⟩;(conv=>whnf);cases hd : decide ((j : Int) < xs.length)
   · (conv=>whnf);exact eQ [] ⟨_,rfl,rfl⟩
   · (conv=>whnf);have hlt := of_decide_eq_true hd;have hw : IntKind.i64.wrap ((j : Int) + 1) = ((j + 1 : Nat) : Int) := wrap_i64 (by omega) (by omega);have hm : xs.length - (IntKind.i64.wrap ((j : Int) + 1)).toNat < xs.length - (j : Int).toNat := by rw [hw]; omega
     refine ⟨rfl,by omega,by omega,?_⟩;(conv=>whnf);refine ⟨rfl,by omega,by decide,?_⟩;generalize hz : xs.getD (0 + Int.toNat (j : Int)) (S.zero .int) = z;(conv=>whnf);cases h1 : decide (e ≤ z)
     · (conv=>whnf);refine ⟨rfl,by omega,by omega,?_⟩;(conv=>whnf);refine ⟨rfl,by omega,by decide,?_⟩;rw [hz];(conv=>whnf);cases h2 : decide (z < -12)
       · (conv=>whnf);refine ⟨[0],[],relo_of [0] (by rfl) (by rfl),?_⟩;exact ⟨⟨j + 1,by omega,congrArg (fnW e xs.length) hw,rfl⟩,hm⟩
       · (conv=>whnf);exact eQ [] ⟨_,rfl,rfl⟩
     · (conv=>whnf);exact eQ [] ⟨_,rfl,rfl⟩
 · (conv=>whnf);have hlt := of_decide_eq_true hd;have hw : IntKind.i64.wrap ((j : Int) + 1) = ((j + 1 : Nat) : Int) := wrap_i64 (by omega) (by omega);have hm : a.length - (IntKind.i64.wrap ((j : Int) + 1)).toNat < a.length - (j : Int).toNat := by rw [hw]; omega
   refine ⟨rfl,by omega,by omega,?_⟩;(conv=>whnf);refine ⟨by rw [Int.toNat_natCast]; omega,by decide,?_⟩;generalize hz : a.getD (Int.toNat (j : Int)) (S.zero .int) = z;(conv=>whnf);cases h1 : decide (z < 0)
   · (conv=>whnf);refine ⟨rfl,by omega,by omega,?_⟩;(conv=>whnf);refine ⟨by rw [Int.toNat_natCast]; omega,by decide,?_⟩;rw [hz];(conv=>whnf);cases h2 : decide (e ≤ z)
     · (conv=>whnf);refine ⟨[0],[],relo_of [0] (by rfl) (by rfl),?_⟩;exact ⟨⟨j + 1,by omega,congrArg (fnV e) hw,rfl⟩,hm⟩
     · (conv=>whnf);exact eQ [] ⟨_,rfl,rfl⟩
   · (conv=>whnf);exact eQ [] ⟨_,rfl,rfl⟩
theorem c_rClosed (l : List El_grp) (hl : l.length ≤ 1048576) (hg : ∀ g ∈ l,good_grp 1048576 g) : Spec S 63 [.imm .grp l] [] fun r H => ∃ a b : Int,r = .tup [.int .i64 a,.int .i64 b] ∧ H = [] := by
 refine specE ok sh63 rfl ?_;conv=>whnf
 refine loop_of [] [] (fun vs H => ∃ (j : Nat) (n : Int),j ≤ l.length ∧ vs = [.imm .grp l,.int .i64 n,.int .i64 j] ∧ H = [])
  (fun vs _ => match vs with | [_,_,.int _ j] => l.length - j.toNat | _ => 0) (by rfl) (by rfl) (by rfl) (by rfl) ⟨0,0,Nat.zero_le _,rfl,rfl⟩ ?_
 rintro vs H1 ⟨j,n,hj,rfl,rfl⟩;(conv=>whnf);cases hd : decide ((j : Int) < l.length)
 · (conv=>whnf);exact eQ [] ⟨_,_,rfl,rfl⟩
 · (conv=>whnf);have hlt := of_decide_eq_true hd;have hw : IntKind.i64.wrap ((j : Int) + 1) = ((j + 1 : Nat) : Int) := wrap_i64 (by omega) (by omega);have hm : l.length - (IntKind.i64.wrap ((j : Int) + 1)).toNat < l.length - (j : Int).toNat := by rw [hw]; omega
   have hx := getD_at (show j < l.length by omega) (S.zero .grp);have hgx := hg _ (List.mem_of_getElem? hx);refine ⟨rfl,by omega,by omega,?_⟩;(conv=>whnf);refine ⟨by rw [Int.toNat_natCast]; omega,by decide,?_⟩;rw [show l.getD (Int.toNat (j : Int)) (S.zero .grp) = l.getD j (S.zero .grp) by rw [Int.toNat_natCast]];generalize hz : l.getD j (S.zero .grp) = z at hx hgx;obtain ⟨ty,ex⟩ := z;obtain ⟨t,ht0,htl,htg⟩ := hgx;simp only at ht0;subst ht0;conv=>whnf
   refine loop_of [] [] (fun vs H => ∃ (k : Nat) (e : Int),k ≤ t.length ∧ vs = [.imm .grp l,.int .i64 n,.int .i64 j,.int .i64 e,.int .i64 k] ∧ H = [])
    (fun vs _ => match vs with | [_,_,_,_,.int _ k] => t.length - k.toNat | _ => 0) (by rfl) (by rfl) (by rfl) (by rfl) ⟨0,_,Nat.zero_le _,rfl,rfl⟩ ?_
   rintro vs H1 ⟨k,e,hk,rfl,rfl⟩;have hz2 : l.getD (Int.toNat (j : Int)) (S.zero .grp) = ⟨some t,ex⟩ := by rw [Int.toNat_natCast]; exact hz
   (conv=>whnf);refine ⟨rfl,by omega,by omega,?_⟩;(conv=>whnf);refine ⟨by rw [Int.toNat_natCast]; omega,by decide,?_⟩;rw [hz2];(conv=>whnf);cases hd2 : decide ((k : Int) < t.length)
   · (conv=>whnf);refine ⟨[],[],relo_of [] (by rfl) (by rfl),?_⟩;exact ⟨⟨j + 1,e,by omega,congrArg (fun z : Int => ([AV.imm KT.grp l,AV.int .i64 e,AV.int .i64 z] : List V)) hw,rfl⟩,hm⟩
   · (conv=>whnf);have hlt2 := of_decide_eq_true hd2;have hw2 : IntKind.i64.wrap ((k : Int) + 1) = ((k + 1 : Nat) : Int) := wrap_i64 (by omega) (by omega);have hxs := getD_at (show k < t.length by omega) (S.zero .sub);have hgs := htg _ (List.mem_of_getElem? hxs);refine ⟨rfl,by omega,by omega,?_⟩;(conv=>whnf);refine ⟨by rw [Int.toNat_natCast]; omega,by decide,?_⟩;rw [hz2];(conv=>whnf);refine ⟨rfl,by omega,by omega,?_⟩;(conv=>whnf);refine ⟨by rw [Int.toNat_natCast]; omega,by decide,?_⟩;rw [show t.getD (Int.toNat (k : Int)) (S.zero .sub) = t.getD k (S.zero .sub) by rw [Int.toNat_natCast]];generalize t.getD k (S.zero .sub) = s at hxs hgs;have kf := c_fine s hgs e;obtain ⟨fi,sa,sk,sp,sr,sf⟩ := s;obtain ⟨⟨a,ha0,hal,hag⟩,hk,⟨p,hp0,hpl,hpg⟩,⟨r,hr0,hrl,hrg⟩,⟨f,hf0,hfl,hfg⟩⟩ := hgs;simp only at ha0 hk hp0 hr0 hf0;subst ha0 hp0 hr0 hf0;(conv=>whnf);refine rQ [] kf ?_;rintro r2 H' ⟨b,rfl,rfl⟩;cases b
     · (conv=>whnf);exact eQ [] ⟨_,_,rfl,rfl⟩
     · (conv=>whnf);refine ⟨[],[],relo_of [] (by rfl) (by rfl),?_⟩;refine ⟨⟨k + 1,e,by omega,congrArg (fun z : Int => ([AV.imm KT.grp l,AV.int .i64 n,AV.int .i64 j,AV.int .i64 e,AV.int .i64 z] : List V)) hw2,rfl⟩,?_⟩;show t.length - (IntKind.i64.wrap ((k : Int) + 1)).toNat < t.length - (k : Int).toNat;rw [hw2]; omega
theorem c_open (c : Cx) (hl : c.l.length ≤ 1048576) (hg : ∀ g ∈ c.l,good_grp 1048576 g) : Spec S 25 [.agg (xC c)] [] fun r H => ∃ b,r = .bool b ∧ H = [] := by
 refine specE ok sh25 rfl ?_;(conv=>whnf);refine rQ [] (c_rClosed c.l hl hg) ?_;rintro r H' ⟨a,b,rfl,rfl⟩;(conv=>whnf);exact eQ [] ⟨_,rfl,rfl⟩
end Ck
end Sh
end Go.Proofs.YtomdfaelgcefdaaGreatDoor
namespace Go.Proofs.YtomdfaelgcefdaaGreatDoor
open Go
namespace Sh
namespace Ck
theorem mt_zero (l : List El_grp) (v : El_vt) : mtF l zvt v = true := rfl
variable {c : Cx} {i : In} {h : Nat} {d : Bool} {ops : List El_vt}
end Ck
end Sh
end Go.Proofs.YtomdfaelgcefdaaGreatDoor
namespace Go.Proofs.YtomdfaelgcefdaaGreatDoor
open Go
namespace Sh
namespace Ck
def sameV (a b : List El_vt) (j : Int) : List V := [.imm .vt a,.imm .vt b,.int .i64 j]
theorem c_same (l : List El_vt) (hl : l.length ≤ 4000000) : SpecD S 29 [.imm .vt l,.imm .vt l] [] (.bool true) [] := by
 refine specE ok sh29 rfl ?_;(conv=>whnf);rw [show ((l.length : Int) != l.length) = false by simp];conv=>whnf
 refine loop_of [] [] (fun vs H => ∃ j : Nat,j ≤ l.length ∧ vs = sameV l l j ∧ H = [])
  (fun vs _ => match vs with | [_,_,.int _ j] => l.length - j.toNat | _ => 0) (by rfl) (by rfl) (by rfl) (by rfl) ⟨0,Nat.zero_le _,rfl,rfl⟩ ?_
 rintro vs H1 ⟨j,hj,rfl,rfl⟩;(conv=>whnf);cases hd : decide ((j : Int) < l.length)
 · (conv=>whnf);exact eQ [] ⟨rfl,rfl⟩
 · (conv=>whnf);have hlt := of_decide_eq_true hd;have hw : IntKind.i64.wrap ((j : Int) + 1) = ((j + 1 : Nat) : Int) := wrap_i64 (by omega) (by omega);refine ⟨rfl,by omega,by omega,?_⟩;(conv=>whnf);refine ⟨by rw [Int.toNat_natCast]; omega,by decide,?_⟩;rw [Int.toNat_natCast];generalize hv : l.getD j (S.zero .vt) = v;obtain ⟨a,b,c⟩ := v;(conv=>whnf);refine ⟨rfl,by omega,by omega,?_⟩;(conv=>whnf);refine ⟨by rw [Int.toNat_natCast]; omega,by decide,?_⟩;(conv=>whnf);simp only [Int.toNat_natCast,hv,beq_self_eq_true,Bool.and_self,Bool.not_true];(conv=>whnf);refine ⟨[],[],relo_of [] (by rfl) (by rfl),?_⟩;refine ⟨⟨j + 1,by omega,congrArg (sameV l l) hw,rfl⟩,?_⟩;show l.length - (IntKind.i64.wrap ((j : Int) + 1)).toNat < l.length - (j : Int).toNat;rw [hw]; omega
def insA (o : Int) : El_instr := ⟨o,0,0,0,0,0,0,0,0,false,0,none,none,false,none,none,none⟩
def ctxA : List V := [.nils,.nils,.nils,.nils,.nils,.nils,.nils,.int .i64 0,.nils]
def cnV (j : Int) : List V := [.int .i64 0,.ptr 1 0,.own .instr 0 0 2 .full,.int .i64 2,.int .i64 j]
theorem c_ConstA : SpecD S 64 [.agg ctxA,.own .instr 0 0 2 .full,.int .i64 0] [.row .instr [insA 65,insA 109]] (.tup [.int .i64 1,.int .i64 160]) [.row .instr [insA 65,insA 109]] := by
 refine specE ok sh64 rfl ?_;conv=>whnf
 refine loop_of [] [0,1] (fun vs H => (vs = cnV 0 ∨ vs = cnV 1) ∧ H = [.row .instr [insA 65,insA 109],.cells ctxA])
  (fun vs _ => match vs with | [_,_,_,_,.int _ j] => 2 - j.toNat | _ => 0) (by rfl) (by rfl) (by rfl) (by rfl) ⟨.inl rfl,rfl⟩ ?_
 rintro vs H1 ⟨rfl | rfl,rfl⟩
 · (conv=>whnf);refine ⟨rfl,by decide,by decide,?_⟩;(conv=>whnf);refine ⟨rfl,by decide,by decide,?_⟩;(conv=>whnf);refine ⟨[0,1],[],relo_of [0,1] (by rfl) (by rfl),?_⟩;exact ⟨⟨.inr rfl,rfl⟩,by decide⟩
 · (conv=>whnf);refine ⟨rfl,by decide,by decide,?_⟩;(conv=>whnf);refine ⟨rfl,by decide,by decide,?_⟩;(conv=>whnf);exact eQ [0] (by exact ⟨rfl,rfl⟩)
theorem c_awake : SpecD S 26 [] [] (.bool true) [] := by
 refine specE ok sh26 rfl ?_;(conv=>whnf);refine cQ [0] c_ConstA ?_;(conv=>whnf);exact eQ [] (by exact ⟨rfl,rfl⟩)
def leA (u u' : V) : Prop := u = u' ∨ (u' = .nils ∧ ∃ k,u = .imm k []) ∨ (u = .cell ∧ (∀ (E : Env) (w : World) (v : Value),VR S E w u' v → v.oneCell' = true))
def leL : List V → List V → Prop
 | [],[] => True
 | u :: us,u' :: us' => leA u u' ∧ leL us us'
 | _,_ => False
theorem leA_VR {u u' : V} (h : leA u u') {E : Env} {w : World} {v : Value} (hv : VR S E w u' v) : VR S E w u v := by
 rcases h with rfl | ⟨rfl,k,rfl⟩ | ⟨rfl,h⟩
 · exact hv
 · cases hv; exact VR.immNil none 0 (Nat.zero_le _)
 · exact VR.cell v (h E w v hv)
theorem leL_at : ∀ {us us' : List V},leL us us' → us.length = us'.length ∧ ∀ (j : Nat) u,us[j]? = some u → ∃ u',us'[j]? = some u' ∧ leA u u'
 | [],[],_ => ⟨rfl,fun j u h => by simp at h⟩
 | a :: us,b :: us',h => by
  obtain ⟨h1,h2⟩ := leL_at h.2;refine ⟨by simp [h1],fun j u hj => ?_⟩
  cases j with
  | zero => simp at hj; subst hj; exact ⟨b,rfl,h.1⟩
  | succ j => simpa using h2 j u (by simpa using hj)
 | [],_ :: _,h => h.elim
 | _ :: _,[],h => h.elim
theorem leA_one {u u' : V} (h : leA u u') (h1 : u'.one = true) : u.one = true := by
 rcases h with rfl | ⟨rfl,k,rfl⟩ | ⟨rfl,h⟩
 · exact h1
 · rfl
 · rfl
theorem Spec.leAgg {f : Nat} {us us' : List V} {vs ws : List V} {H : Heap KT ElT} {R : V → Heap KT ElT → Prop} (h : Spec S f (vs ++ .agg us :: ws) H R) (hl : leL us us') : Spec S f (vs ++ .agg us' :: ws) H R := by
 obtain ⟨h1,h2⟩ := leL_at hl;intro E w args hE hsz hva;refine h E w args hE (by simpa using hsz) fun j u hj => ?_
 by_cases hjv : j = vs.length
 · subst hjv;have hu : u = .agg us := by simpa using hj.symm
   subst hu;obtain ⟨v,hv1,cs,rfl,hcs,hc⟩ := hva vs.length (.agg us') (by simp);refine ⟨_,hv1,cs,rfl,by rw [hcs,h1],fun t x hx => ?_⟩;obtain ⟨x',hx',hle⟩ := h2 t x hx;obtain ⟨y,hy1,hy2,hy3⟩ := hc t x' hx';exact ⟨y,hy1,leA_one hle hy2,leA_VR hle hy3⟩
 · refine hva j u ?_
   rcases Nat.lt_or_gt_of_ne hjv with hlt | hgt
   · rw [List.getElem?_append_left hlt] at hj ⊢; exact hj
   · rw [List.getElem?_append_right (by omega)] at hj ⊢;obtain ⟨k,hk⟩ : ∃ k,j - vs.length = k + 1 := ⟨j - vs.length - 1,by omega⟩;rw [hk] at hj ⊢;simpa using hj
end Ck
end Sh
end Go.Proofs.YtomdfaelgcefdaaGreatDoor
namespace Go.Proofs.YtomdfaelgcefdaaGreatDoor
open Go
namespace Sh
namespace Ck
theorem deadF_lab (f : El_frame) : labL (deadF f) = labL f := rfl
structure Fw (w : Wh) (fs : List El_frame) (f : El_frame) : Prop where
 eq : frW w = fs ++ [f]
 hh : f.height = 0
 hl : fs.length ≤ 3000000
 hd : w.dead = true → f.dead = true
 hg : ∀ f' ∈ fs ++ [f],(f'.inn.getD []).length ≤ 1048576 ∧ (f'.out.getD []).length ≤ 1048576
theorem frN_good (w : Wh) (G : Gw w) : ∀ f ∈ frN w w.dp.length,(f.inn.getD []).length ≤ 1048576 ∧ (f.out.getD []).length ≤ 1048576 := by
 intro f hf;unfold frN at hf
 rcases List.mem_cons.1 hf with rfl | hf
 · exact ⟨by simp [mkF],by simpa [mkF] using G.hr⟩
 · obtain ⟨b,hb,rfl⟩ := List.mem_map.1 hf;obtain ⟨q,rfl,hq⟩ := G.hd b (List.mem_of_mem_take hb);exact ⟨by simp [mkF],by simpa [mkF] using hq⟩
theorem frW_split (w : Wh) (G : Gw w) : ∃ fs f,frN w w.dp.length = fs ++ [f] ∧ Fw w fs (if w.dead = true then deadF f else f) := by
 obtain ⟨fs,f,h1,h2,h3⟩ := frN_last w w.dp.length;have hg := frN_good w G;have hlen : (frN w w.dp.length).length = w.dp.length + 1 := by simp [frN]
 have hdl := G.hdl;rw [h1] at hg;refine ⟨fs,f,h1,?_,?_,by omega,?_,?_⟩
 · unfold frW;rw [h1];split
   · simp [deadL]
   · rfl
 · split
   · exact h2
   · exact h2
 · intro hd; rw [if_pos hd]; rfl
 · intro f' hf'
   rcases List.mem_append.1 hf' with h | h
   · exact hg f' (List.mem_append_left _ h)
   · simp only [List.mem_singleton] at h;subst h;have := hg f (by simp);split
     · exact this
     · exact this
theorem c_StepW (w : Wh) (G : Gw w) (i : In) (hi : Gi i) {fs : List El_frame} {f : El_frame} (F : Fw w fs f) (C : Cp) (op : List El_vt) (h1 : w.sk.length ≤ op.length) (h2 : C ≠ .unk) (h3 : op.take w.sk.length = w.sk) :
    Spec S 28 [.agg (xC w.c),.ptr 0 0,.agg (iC i)] (ck w.c.l (loW w) (seW w) w.rs w.sk.length C op (frW w)) (okR w.c.l (loW w) (seW w) w.rs (frW w) (.int .i64 (stepF w.c i (frW w) 0 f.dead w.sk).1) (stepF w.c i (frW w) 0 f.dead w.sk).2) := by
 have k := c_Step (c := w.c) (lo := loW w) (se := seW w) (re := w.rs) (op := op) (fs := fs) (f := f) (h := 0) (m := w.sk.length) (C := C) ⟨G.hl,G.hg,by have := F.hl; omega,by rw [F.hh]; rfl,h1,by have := G.hk; omega,h2⟩ F.hl hi F.hg;rw [h3] at k;rw [F.eq];exact k
end Ck
end Sh
end Go.Proofs.YtomdfaelgcefdaaGreatDoor
namespace Go.Proofs.YtomdfaelgcefdaaGreatDoor
open Go
namespace Sh
namespace Ck
variable {c : Cx} {i : In} {ops : List El_vt}
theorem ln_popL_len (h : Nat) (d : Bool) (ops : List El_vt) : (popL h d ops).2.2.length ≤ ops.length := by
 unfold popL;split
 · simp
 · split <;> exact Nat.le_refl _
theorem ln_popT_len (l : List El_grp) (h : Nat) (d : Bool) (ops : List El_vt) (v : El_vt) : (popT l h d ops v).2.2.length ≤ ops.length := by
 unfold popT;repeat' split
 · exact ln_popL_len h d ops
 · exact Nat.le_refl _
 · exact ln_popL_len h d ops
theorem ln_popsR_len (l : List El_grp) (h : Nat) (d : Bool) (o : List El_vt) : ∀ (q ops : List El_vt),ops.length ≤ o.length → (popsR l h d o q ops).2.length ≤ o.length
 | [],_,hl => hl
 | v :: r,ops,hl => by
  rw [popsR];split
  · exact ln_popsR_len l h d o r _ (Nat.le_trans (ln_popT_len l h d ops v) hl)
  · exact Nat.le_refl _
theorem ln_popsL_len (l : List El_grp) (h : Nat) (d : Bool) (ops q : List El_vt) : (popsL l h d ops q).2.length ≤ ops.length := ln_popsR_len l h d ops _ _ (Nat.le_refl _)
theorem ln_swap_len (l : List El_grp) (h : Nat) (d : Bool) (ops q out : List El_vt) : (swapL l h d ops q out).2.length ≤ ops.length + out.length := by
 unfold swapL;have := ln_popsL_len l h d ops q;split
 · simp only [List.length_append]; omega
 · simp only []; omega
variable {h : Nat} {d : Bool}
theorem cast_two (c : Cx) (fr : List El_frame) (h : Nat) (d : Bool) (ops : List El_vt) (op : Int) (v : El_vt) (ho : op = 64276 ∨ op = 64277) :
    ∃ (e : Int) (r r' : List El_vt),stepF c ⟨op,0,0,0,[v]⟩ fr h d ops = (e,r) ∧ stepF c ⟨op + 2,0,0,0,[v]⟩ fr h d ops = (e,r') ∧ (¬ e = 0 → r = r') ∧ (e = 0 → ∃ k,r = k ++ [⟨1,false,0⟩] ∧ r' = k ++ [v]) ∧ r.length ≤ ops.length + 1 ∧ r'.length ≤ ops.length + 1 := by
 have h1 : stepF c ⟨op,0,0,0,[v]⟩ fr h d ops = if (topF c.l v.heap).2 = 0 then swapL c.l h d ops [⟨5,true,(topF c.l v.heap).1⟩] [⟨1,false,0⟩] else (150,ops) := by
  rcases ho with rfl | rfl <;> rfl
 have h2 : stepF c ⟨op + 2,0,0,0,[v]⟩ fr h d ops = if (topF c.l v.heap).2 = 0 then swapL c.l h d ops [⟨5,true,(topF c.l v.heap).1⟩] [v] else (150,ops) := by
  rcases ho with rfl | rfl <;> rfl
 rw [h1,h2]
 by_cases ht : (topF c.l v.heap).2 = 0
 · rw [if_pos ht,if_pos ht];have l1 := ln_swap_len c.l h d ops [⟨5,true,(topF c.l v.heap).1⟩] [⟨1,false,0⟩];have l2 := ln_swap_len c.l h d ops [⟨5,true,(topF c.l v.heap).1⟩] [v];unfold swapL at l1 l2 ⊢
   by_cases hp : (popsL c.l h d ops [⟨5,true,(topF c.l v.heap).1⟩]).1 = 0
   · rw [if_pos hp] at l1 l2 ⊢;rw [if_pos hp];exact ⟨0,_,_,rfl,rfl,fun h => absurd rfl h,fun _ => ⟨_,rfl,rfl⟩,l1,l2⟩
   · rw [if_neg hp] at l1 l2 ⊢;rw [if_neg hp];exact ⟨_,_,_,rfl,rfl,fun _ => rfl,fun h => absurd h hp,by omega,by omega⟩
 · rw [if_neg ht,if_neg ht];exact ⟨150,ops,ops,rfl,rfl,fun _ => rfl,fun h => absurd h (by decide),by omega,by omega⟩
end Ck
end Sh
end Go.Proofs.YtomdfaelgcefdaaGreatDoor
namespace Go.Proofs.YtomdfaelgcefdaaGreatDoor
open Go
namespace Sh
namespace Ck
def iO (o : Int) : List V := [.int .i64 o,.int .u32 0,.int .u32 0,.int .u64 0,.int .u32 0,.int .u32 0,.int .u64 0,.int .i64 0,.int .i64 0,.bool false,.int .i64 0,.nils,.nils,.bool false,.nils,.own .vt 6 0 1 .full,.nils]
def iI (o : Int) (v : El_vt) : List V := [.int .i64 o,.int .u32 0,.int .u32 0,.int .u64 0,.int .u32 0,.int .u32 0,.int .u64 0,.int .i64 0,.int .i64 0,.bool false,.int .i64 0,.nils,.nils,.bool false,.nils,.imm .vt [v],.nils]
theorem le_cell {u : V} (h : ∀ (E : Env) (w : World) (v : Value),VR S E w u v → v.oneCell' = true) : leA .cell u := .inr (.inr ⟨rfl,h⟩)
theorem cell_int (k : IntKind) (n : Int) : leA .cell (.int k n) := le_cell fun E w v h => by cases h; rfl
theorem cell_bool (b : Bool) : leA .cell (.bool b) := le_cell fun E w v h => by cases h; rfl
theorem cell_nils : leA .cell (.nils) := le_cell fun E w v h => by cases h; rfl
theorem iI_le (o : Int) (v : El_vt) : leL (iC ⟨o,0,0,0,[v]⟩) (iI o v) :=
 ⟨.inl rfl,.inl rfl,.inl rfl,.inl rfl,cell_int _ _,cell_int _ _,cell_int _ _,cell_int _ _,cell_int _ _,cell_bool _,cell_int _ _,cell_nils,cell_nils,cell_bool _,cell_nils,.inl rfl,cell_nils,trivial⟩
def ckX (l : List El_grp) (lo : List El_vt) (se : List Bool) (re : List El_vt) (m : Nat) (C : Cp) (op : List El_vt) (fr : List El_frame) : Heap KT ElT :=
 [ckC l lo.length se.length re.length (.own .vt 7 0 m C) (.own .frame 5 0 fr.length .whole),.row .vt lo,.row .bool se,.row .vt re,.gone,.row .frame fr,.gone,.row .vt op]
theorem c_StepO (w : Wh) (G : Gw w) (o : Int) (v : El_vt) {fs : List El_frame} {f : El_frame} (F : Fw w fs f) (C : Cp) (op : List El_vt) (h1 : w.sk.length ≤ op.length) (h2 : C ≠ .unk) (h3 : op.take w.sk.length = w.sk) (e : Int) (r0 : List El_vt) (hP : stepF w.c ⟨o,0,0,0,[v]⟩ (frW w) 0 f.dead w.sk = (e,r0)) :
    Spec S 28 [.agg (xC w.c),.ptr 0 0,.agg (iO o)] (ck w.c.l (loW w) (seW w) w.rs w.sk.length C op (frW w) ++ [.row .vt [v]])
     (fun r H => r = .int .i64 e ∧ ∃ m C op,m ≤ op.length ∧ C ≠ .unk ∧ op.take m = r0 ∧ H = ckX w.c.l (loW w) (seW w) w.rs m C op (frW w)) := by
 have k := c_StepW w G ⟨o,0,0,0,[v]⟩ ⟨show U32 0 from ⟨by decide,by decide⟩,show U32 0 from ⟨by decide,by decide⟩,show (0 : Int) ≤ 0 by decide,by simp⟩ F C op h1 h2 h3;rw [hP] at k;have k2 := Spec.leAgg (vs := [.agg (xC w.c),.ptr 0 0]) (ws := []) k (iI_le o v);refine Spec.relo ok [0,1,2,3,4,5] [6] (by rfl) ?_ (by repeat' first | exact trivial | refine And.intro ?_ ?_) k2 ?_
 · refine ⟨?_,trivial,?_,trivial⟩
   all_goals repeat' first | exact trivial | exact rfl | (simp; done) | refine And.intro ?_ ?_
 rintro r H' ⟨rfl,m,C,op,h1,h2,h3,rfl⟩;exact ⟨1,[0,1,2,3,4,5,7,6],rfl,rfl,rfl,m,C,op,h1,h2,h3,rfl⟩
theorem c_VrefCasts (w : Wh) (G : Gw w) (v : El_vt) : SpecD S 6 [.agg (wC w),.agg (enc_vt v)] [] (.bool true) [] := by
 have ko := c_open w.c G.hl G.hg;have kb := c_begin0 w G;obtain ⟨fs,f,q1,F⟩ := frW_split w G;obtain ⟨vn,vu,vh⟩ := v;obtain ⟨e,r1,r2,p1,p2,hne,heq,l1,l2⟩ := cast_two w.c (frW w) 0 (if w.dead = true then deadF f else f).dead w.sk (if vu = true then 64277 else 64276) ⟨5,vu,vh⟩ (by cases vu; exact .inl rfl; exact .inr rfl);have ks1 := fun C op h1 h2 h3 => c_StepO w G _ ⟨5,vu,vh⟩ F C op h1 h2 h3 _ _ p1;have ks2 := fun C op h1 h2 h3 => c_StepO w G _ ⟨5,vu,vh⟩ F C op h1 h2 h3 _ _ p2;clear p1 p2 F q1;have hk := G.hk;have gk : ∀ k : List El_vt,r2 = k ++ [⟨5,vu,vh⟩] → r2.getD k.length (S.zero .vt) = ⟨5,vu,vh⟩ := fun k h => by rw [h]; simp [List.getD_eq_getElem?_getD]
 refine specE ok sh6 rfl ?_;(conv=>whnf);refine rQ [] ko ?_;rintro r H' ⟨b,rfl,rfl⟩;cases b
 rotate_left
 · (conv=>whnf);refine cQ [] c_awake ?_;(conv=>whnf);exact eQ [] (by exact ⟨rfl,rfl⟩)
 cases vu
 all_goals
  (conv=>whnf);refine rQ [] kb ?_;rintro r H' ⟨rfl,C1,op1,a1,b1,d1,rfl⟩;have ks1 := ks1 C1 op1 a1 b1 d1;cases C1;all_goals try exact absurd rfl b1
  all_goals
   (conv=>whnf);refine rQ [] kb ?_;rintro r H' ⟨rfl,C2,op2,a2,b2,d2,rfl⟩;have ks2 := ks2 C2 op2 a2 b2 d2;cases C2;all_goals try exact absurd rfl b2
   all_goals
    (conv=>whnf);refine rQ [2,3,4,5,6,7,14] ks1 ?_;rintro r H' ⟨rfl,m3,C3,op3,a3,b3,d3,rfl⟩;cases C3;all_goals try exact absurd rfl b3
    all_goals
     (conv=>whnf);refine rQ [8,9,10,11,12,13,16] ks2 ?_;rintro r H' ⟨rfl,m4,C4,op4,a4,b4,d4,rfl⟩
     have hl3 : m3 ≤ 4000000 := by
      have := congrArg List.length d3;simp at this;omega
     have hl4 : m4 ≤ 4000000 := by
      have := congrArg List.length d4;simp at this;omega
     have kp1 := fun C h => c_Operands (l := w.c.l) (lo := loW w) (se := seW w) (re := w.rs) (op := op3) (fr := frW w) (m := m3) (C := C) h a3 hl3;have kp2 := fun C h => c_Operands (l := w.c.l) (lo := loW w) (se := seW w) (re := w.rs) (op := op4) (fr := frW w) (m := m4) (C := C) h a4 hl4;rw [d3] at kp1;rw [d4] at kp2;cases C4;all_goals try exact absurd rfl b4
     all_goals
      (conv=>whnf);have hee : (e != e) = false := by simp
      simp only [hee];(conv=>whnf);cases h1 : (e == 0)
      · have he : ¬ e = 0 := by simpa using h1
        obtain rfl := hne he;simp only [bne,h1];(conv=>whnf);refine cQ [2,3,4,5,15,7] ((kp1 _ (by decide))) ?_;(conv=>whnf);refine cQ [8,9,10,11,17,13] ((kp2 _ (by decide))) ?_;(conv=>whnf);refine cQ [] ((c_same r1 (by omega))) ?_;(conv=>whnf);refine cQ [] c_awake ?_;(conv=>whnf);exact eQ [] (by exact ⟨rfl,rfl⟩)
      · have he : e = 0 := by simpa using h1
        simp only [bne,h1];(conv=>whnf);refine cQ [2,3,4,5,15,7] ((kp1 _ (by decide))) ?_;(conv=>whnf);refine cQ [8,9,10,11,17,13] ((kp2 _ (by decide))) ?_;(conv=>whnf);obtain ⟨k,hk1,hk2⟩ := heq he;have e1 : ((r1.length : Int) != r2.length) = false := by rw [hk1,hk2]; simp
        have e2 : ((r1.length : Int) == 0) = false := by rw [beq_eq_false_iff_ne,hk1]; simp; omega
        have n1 : r1.length = k.length + 1 := by rw [hk1]; simp
        have n2 : r2.length = k.length + 1 := by rw [hk2]; simp
        have hw : IntKind.i64.wrap ((r1.length : Int) - 1) = ((k.length : Nat) : Int) := by rw [wrap_i64 (by omega) (by omega)]; omega
        have t1 : r1.take k.length = k := by rw [hk1]; simp
        have t2 : r2.take k.length = k := by rw [hk2]; simp
        have g1 : r1.getD k.length (S.zero .vt) = ⟨1,false,0⟩ := by rw [hk1]; simp [List.getD_eq_getElem?_getD]
        have g2 := gk k hk2;simp only [e1];(conv=>whnf);simp only [e2];(conv=>whnf);rw [hw];refine ⟨rfl,by omega,by omega,by omega,rfl,?_⟩;(conv=>whnf);refine ⟨rfl,by omega,by omega,by omega,rfl,?_⟩;(conv=>whnf);rw [show List.drop (Int.toNat 0) (List.take ((k.length : Int)).toNat r1) = k by rw [hk1]; simp,show List.drop (Int.toNat 0) (List.take ((k.length : Int)).toNat r2) = k by rw [hk2]; simp];refine cQ [] ((c_same k (by omega))) ?_;(conv=>whnf);refine ⟨rfl,by omega,by omega,?_⟩;(conv=>whnf);refine ⟨by rw [Int.toNat_natCast]; omega,by decide,?_⟩;rw [Int.toNat_natCast,g1];(conv=>whnf);refine ⟨rfl,by omega,by omega,?_⟩;(conv=>whnf);refine ⟨by rw [Int.toNat_natCast]; omega,by decide,?_⟩;rw [Int.toNat_natCast,g2];(conv=>whnf);simp only [beq_self_eq_true,Bool.and_self];(conv=>whnf);refine cQ [] c_awake ?_;(conv=>whnf);exact eQ [] (by exact ⟨rfl,rfl⟩)
end Ck
end Sh
end Go.Proofs.YtomdfaelgcefdaaGreatDoor
namespace Go.Proofs.YtomdfaelgcefdaaGreatDoor
open Go
namespace Sh
theorem bulk_one {H : Type} (d : DataW H) : 1 ≤ Rows.uptoBulk d := by
 cases d with
 | lit l => cases l <;> simp [Rows.uptoBulk]
 | nil => simp [Rows.uptoBulk]
 | ptr d => simp [Rows.uptoBulk]
 | slice elems spare => simp [Rows.uptoBulk]
 | agg parts => simp [Rows.uptoBulk]
 | iface t d => simp [Rows.uptoBulk]
 | map entries => simp [Rows.uptoBulk]
 | held h => simp [Rows.uptoBulk]
theorem bulk_part {H : Type} {d : DataW H} {l : List (DataW H)} (h : d ∈ l) : Rows.uptoBulk d ≤ Rows.uptoBulkAll l := by
 induction l with
 | nil => cases h
 | cons x r ih =>
  simp only [Rows.uptoBulkAll]
  cases List.mem_cons.1 h with
  | inl e => subst e; omega
  | inr e => have := ih e; omega
theorem bulk_len {H : Type} (l : List (DataW H)) : l.length ≤ Rows.uptoBulkAll l := by
 induction l with
 | nil => simp [Rows.uptoBulkAll]
 | cons x r ih => have := bulk_one x; simp only [Rows.uptoBulkAll,List.length_cons]; omega
theorem bulk_small {H : Type} : Small (Hd := H) 1048576 fun d => Rows.uptoBulk d ≤ 1048576 where
 sl {es sp} h _ := by
  simp only [Rows.uptoBulk] at h;have := bulk_len es;exact ⟨by omega,fun e he => by have := bulk_part he; omega⟩
 agg {ps} h p hp := by
  simp only [Rows.uptoBulk] at h;have := bulk_part hp;omega
 str {s} h _ := by
  simp only [Rows.uptoBulk,Array.length_toList] at h;exact Nat.le_trans (Nat.le_succ _) h
namespace Ck
theorem VR2_le {us us' : List V} (hl : leL us us') {W : World} {v : Value} (h : VR2 S E0 W (.agg us') v) : VR2 S E0 W (.agg us) v := by
 obtain ⟨h1,h2⟩ := leL_at hl;obtain ⟨cs,rfl,hcs,hc⟩ := h;refine ⟨cs,rfl,by rw [hcs,h1],fun t x hx => ?_⟩;obtain ⟨x',hx',hle⟩ := h2 t x hx;obtain ⟨y,hy1,hy2,hy3⟩ := hc t x' hx';exact ⟨y,hy1,leA_one hle hy2,leA_VR hle hy3⟩
theorem le_imm {k : KT} (xs : List (ElT k)) : leA .cell (.imm k xs) := .inr (.inr ⟨rfl,fun E w v h => by cases h <;> rfl⟩)
theorem typed_where {us : List V} (h : Typed 1048576 (goodT 1048576) [.sl .grp,.sl .int,.sl .tbl,.sl .lim,.sl .glob,.sl .int,.sl .vt,.i .i64,.sl .bool,.sl .vt,.sl .vt,.sl .vt,.sl .lvt,.sl .vt,.b] us) :
    ∃ w : Wh,leL (wC w) us ∧ Gw w ∧ w.sk.length ≤ 1048576 := by
 obtain ⟨u0,us,rfl,h0,h⟩ := h.uncons;obtain ⟨u1,us,rfl,h1,h⟩ := h.uncons;obtain ⟨u2,us,rfl,h2,h⟩ := h.uncons;obtain ⟨u3,us,rfl,h3,h⟩ := h.uncons;obtain ⟨u4,us,rfl,h4,h⟩ := h.uncons;obtain ⟨u5,us,rfl,h5,h⟩ := h.uncons;obtain ⟨u6,us,rfl,h6,h⟩ := h.uncons;obtain ⟨u7,us,rfl,h7,h⟩ := h.uncons;obtain ⟨u8,us,rfl,h8,h⟩ := h.uncons;obtain ⟨u9,us,rfl,h9,h⟩ := h.uncons;obtain ⟨u10,us,rfl,h10,h⟩ := h.uncons;obtain ⟨u11,us,rfl,h11,h⟩ := h.uncons;obtain ⟨u12,us,rfl,h12,h⟩ := h.uncons;obtain ⟨u13,us,rfl,h13,h⟩ := h.uncons;obtain ⟨u14,us,rfl,h14,h⟩ := h.uncons;obtain rfl := h.unnil;obtain ⟨l,rfl,hl,hg⟩ := h0.sl;obtain ⟨fu,rfl,_,_⟩ := h1.sl;obtain ⟨x2,rfl,_,_⟩ := h2.sl;obtain ⟨x3,rfl,_,_⟩ := h3.sl;obtain ⟨x4,rfl,_,_⟩ := h4.sl;obtain ⟨x5,rfl,_,_⟩ := h5.sl;obtain ⟨el,rfl,_,_⟩ := h6.sl;obtain ⟨da,rfl,_⟩ := h7.int;obtain ⟨rf,rfl,_,_⟩ := h8.sl;obtain ⟨ps,rfl,hp,_⟩ := h9.sl;obtain ⟨ls,rfl,hls,_⟩ := h10.sl;obtain ⟨rs,rfl,hr,_⟩ := h11.sl;obtain ⟨dp,rfl,hdl,hd⟩ := h12.sl;obtain ⟨sk,rfl,hk,_⟩ := h13.sl;obtain ⟨dead,rfl⟩ := h14.bool;refine ⟨⟨⟨l,fu,el,da,rf⟩,ps,ls,rs,dp,sk,dead⟩,⟨.inl rfl,.inl rfl,le_imm _,le_imm _,le_imm _,le_imm _,.inl rfl,.inl rfl,.inl rfl,.inl rfl,.inl rfl,.inl rfl,.inl rfl,.inl rfl,.inl rfl,trivial⟩,⟨hl,hg,hp,hls,hr,hdl,fun b hb => ?_,Nat.le_trans hk (show (1048576 : Nat) ≤ 2097152 by decide)⟩,hk⟩;obtain ⟨q,h1,h2,_⟩ := hd b hb;exact ⟨q,h1,h2⟩
theorem typed_vt {us : List V} (h : Typed 1048576 (goodT 1048576) [.i .i64,.b,.i .i64] us) : ∃ v : El_vt,leL (enc_vt v) us ∧ True := by
 obtain ⟨u0,us,rfl,h0,h⟩ := h.uncons;obtain ⟨u1,us,rfl,h1,h⟩ := h.uncons;obtain ⟨u2,us,rfl,h2,h⟩ := h.uncons;obtain rfl := h.unnil;obtain ⟨a,rfl,_⟩ := h0.int;obtain ⟨b,rfl⟩ := h1.bool;obtain ⟨c,rfl,_⟩ := h2.int;exact ⟨⟨a,b,c⟩,⟨.inl rfl,.inl rfl,.inl rfl,trivial⟩,trivial⟩
end Ck
end Sh
end Go.Proofs.YtomdfaelgcefdaaGreatDoor
