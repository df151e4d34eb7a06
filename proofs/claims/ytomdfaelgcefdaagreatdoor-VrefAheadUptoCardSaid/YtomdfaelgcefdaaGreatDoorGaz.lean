/- CkT. -/
import Derived.Test.YtomdfaelgcefdaaGreatDoorGay
set_option maxRecDepth 100000
set_option maxHeartbeats 64000000
namespace Go.Proofs.YtomdfaelgcefdaaGreatDoor
open Go
namespace Sh
namespace Ck
variable {c : Cx} {i : In} {l : List El_grp} {lo : List El_vt} {se : List Bool} {re : List El_vt} {op : List El_vt} {fr fs : List El_frame} {f : El_frame} {h m : Nat} {C : Cp}
theorem c_cpNo : SpecD S 51 [.nils] [] (.own .vt 0 0 0 .whole) [.row .vt []] := by
 refine specE ok sh51 rfl ?_;(conv=>whnf);refine ⟨by omega,rfl,⟨by decide,by decide⟩,?_⟩;(conv=>whnf);refine ⟨rfl,by decide,?_⟩;(conv=>whnf);exact eQ [0] (by exact ⟨rfl,rfl⟩)
theorem c_cpOo (o : Option (List El_vt)) (ho : (o.getD []).length ≤ 1048576) : SpecD S 51 [slO .vt o] [] (.own .vt 0 0 (o.getD []).length .whole) [.row .vt (o.getD [])] := by
 cases o with
 | none => exact c_cpNo
 | some q => exact c_cpO_vt q ho
def labL (f : El_frame) : List El_vt := if f.op = 3 then f.inn.getD [] else f.out.getD []
def zfr : El_frame := zeroT .frame
def labF (fr : List El_frame) (n : Int) : Option (List El_vt) := if n < fr.length then some (labL (fr.getD (fr.length - 1 - n.toNat) zfr)) else none
theorem c_Label0 (n : Int) (hn : U32 n) (hfl : fr.length ≤ 4000000) (hlt : ¬ n < fr.length) : SpecD S 101 [.ptr 0 0,.int .u32 n] (ck l lo se re m C op fr) (.tup [.nils,.int .i64 133]) (ck l lo se re m C op fr) := by
 have hw1 : IntKind.u64.wrap n = n := IntWalk.u64_in _ ⟨hn.1,by have := hn.2; omega⟩;have hw2 : IntKind.u64.wrap (fr.length : Int) = fr.length := IntWalk.u64_in _ ⟨by omega,by omega⟩;have hd : decide ((fr.length : Int) ≤ n) = true := decide_eq_true (by omega);cases C
 all_goals
  refine specE ok sh101 rfl ?_;(conv=>whnf);refine cQ [0,1,2,3,4,5] c_none ?_;(conv=>whnf);refine cQ [0,1,2,3,4,5] c_sizeF ?_;(conv=>whnf);rw [hw1,hw2];simp only [hd];(conv=>whnf);exact eQ [0,1,2,3,4,5] (by exact ⟨rfl,rfl⟩)
theorem c_Label1 (n : Int) (hn : U32 n) (hfl : fr.length ≤ 4000000) (hlt : n < fr.length) (f : El_frame) (hf : fr.getD (fr.length - 1 - n.toNat) zfr = f) (h3 : f.op = 3) (hi : (f.inn.getD []).length ≤ 1048576) :
    SpecD S 101 [.ptr 0 0,.int .u32 n] (ck l lo se re m C op fr) (.tup [.own .vt 6 0 (f.inn.getD []).length .whole,.int .i64 0]) (ck l lo se re m C op fr ++ [.row .vt (f.inn.getD [])]) := by
 have hw1 : IntKind.u64.wrap n = n := IntWalk.u64_in _ ⟨hn.1,by have := hn.2; omega⟩;have hw2 : IntKind.u64.wrap (fr.length : Int) = fr.length := IntWalk.u64_in _ ⟨by omega,by omega⟩;have hw3 : IntKind.i64.wrap n = n := wrap_i64 (by have := hn.1; omega) (by have := hn.2; omega);have hw4 : IntKind.i64.wrap ((fr.length : Int) - 1) = (fr.length : Int) - 1 := wrap_i64 (by omega) (by omega);have hw5 : IntKind.i64.wrap ((fr.length : Int) - 1 - n) = ((fr.length - 1 - n.toNat : Nat) : Int) := by have := hn.1; rw [wrap_i64 (by omega) (by omega)]; omega
 have hd : decide ((fr.length : Int) ≤ n) = false := decide_eq_false (by omega);have hcp := c_cpOo f.inn hi;have hn0 := hn.1;obtain ⟨o0,i0,u0,h0,s0,d0⟩ := f;simp only at h3 hi hcp ⊢;subst h3;cases i0;all_goals cases u0
 all_goals cases s0
 all_goals
  cases C
  all_goals
   refine specE ok sh101 rfl ?_;(conv=>whnf);refine cQ [0,1,2,3,4,5] c_none ?_;(conv=>whnf);refine cQ [0,1,2,3,4,5] c_sizeF ?_;(conv=>whnf);rw [hw1,hw2];simp only [hd];(conv=>whnf);refine ⟨?_,?_⟩
   · (conv=>whnf);refine cQ [0,1,2,3,4,5] c_sizeF ?_;(conv=>whnf);try (refine ⟨by trivial,?_⟩;conv=>whnf)
     rw [hw4,hw3,hw5];refine ⟨rfl,by omega,by omega,?_⟩;rw [show 0 + Int.toNat ((fr.length - 1 - n.toNat : Nat) : Int) = fr.length - 1 - n.toNat by rw [Nat.zero_add,Int.toNat_natCast]];(conv=>whnf);refine ⟨rfl,by omega,(by decide : 0 + 6 ≤ 6),?_⟩;rw [show fr.getD (fr.length - 1 - n.toNat) (S.zero .frame) = _ from hf];(conv=>whnf);try (refine ⟨by trivial,?_⟩;conv=>whnf)
     try (refine ⟨by trivial,?_⟩;conv=>whnf)
     refine cQ [] hcp ?_;(conv=>whnf);exact eQ [0,1,2,3,4,5,7] (by exact ⟨rfl,rfl⟩)
   · (conv=>whnf);try (refine ⟨by trivial,?_⟩;conv=>whnf)
     refine cQ [0,1,2,3,4,5] c_sizeF ?_;(conv=>whnf);try (refine ⟨by trivial,?_⟩;conv=>whnf)
     rw [hw4,hw3,hw5];refine ⟨rfl,by omega,by omega,?_⟩;rw [show 0 + Int.toNat ((fr.length - 1 - n.toNat : Nat) : Int) = fr.length - 1 - n.toNat by rw [Nat.zero_add,Int.toNat_natCast]];(conv=>whnf);refine ⟨rfl,by omega,(by decide : 0 + 6 ≤ 6),?_⟩;rw [show fr.getD (fr.length - 1 - n.toNat) (S.zero .frame) = _ from hf];(conv=>whnf);try (refine ⟨by trivial,?_⟩;conv=>whnf)
     try (refine ⟨by trivial,?_⟩;conv=>whnf)
     refine cQ [] hcp ?_;(conv=>whnf);exact eQ [0,1,2,3,4,5,7] (by exact ⟨rfl,rfl⟩)
theorem c_Label2 (n : Int) (hn : U32 n) (hfl : fr.length ≤ 4000000) (hlt : n < fr.length) (f : El_frame) (hf : fr.getD (fr.length - 1 - n.toNat) zfr = f) (h3 : ¬ f.op = 3) (hi : (f.out.getD []).length ≤ 1048576) :
    SpecD S 101 [.ptr 0 0,.int .u32 n] (ck l lo se re m C op fr) (.tup [.own .vt 6 0 (f.out.getD []).length .whole,.int .i64 0]) (ck l lo se re m C op fr ++ [.row .vt (f.out.getD [])]) := by
 have hw1 : IntKind.u64.wrap n = n := IntWalk.u64_in _ ⟨hn.1,by have := hn.2; omega⟩;have hw2 : IntKind.u64.wrap (fr.length : Int) = fr.length := IntWalk.u64_in _ ⟨by omega,by omega⟩;have hw3 : IntKind.i64.wrap n = n := wrap_i64 (by have := hn.1; omega) (by have := hn.2; omega);have hw4 : IntKind.i64.wrap ((fr.length : Int) - 1) = (fr.length : Int) - 1 := wrap_i64 (by omega) (by omega);have hw5 : IntKind.i64.wrap ((fr.length : Int) - 1 - n) = ((fr.length - 1 - n.toNat : Nat) : Int) := by have := hn.1; rw [wrap_i64 (by omega) (by omega)]; omega
 have hd : decide ((fr.length : Int) ≤ n) = false := decide_eq_false (by omega);have hcp := c_cpOo f.out hi;have hn0 := hn.1;obtain ⟨o0,i0,u0,h0,s0,d0⟩ := f;simp only at h3 hi hcp ⊢;have e3 : (o0 == 3) = false := by simpa using h3
 cases i0;all_goals cases u0
 all_goals cases s0
 all_goals
  cases C
  all_goals
   refine specE ok sh101 rfl ?_;(conv=>whnf);refine cQ [0,1,2,3,4,5] c_none ?_;(conv=>whnf);refine cQ [0,1,2,3,4,5] c_sizeF ?_;(conv=>whnf);rw [hw1,hw2];simp only [hd];(conv=>whnf);refine ⟨?_,?_⟩
   · (conv=>whnf);refine cQ [0,1,2,3,4,5] c_sizeF ?_;(conv=>whnf);try (refine ⟨by trivial,?_⟩;conv=>whnf)
     rw [hw4,hw3,hw5];refine ⟨rfl,by omega,by omega,?_⟩;rw [show 0 + Int.toNat ((fr.length - 1 - n.toNat : Nat) : Int) = fr.length - 1 - n.toNat by rw [Nat.zero_add,Int.toNat_natCast]];(conv=>whnf);refine ⟨rfl,by omega,(by decide : 0 + 6 ≤ 6),?_⟩;rw [show fr.getD (fr.length - 1 - n.toNat) (S.zero .frame) = _ from hf];(conv=>whnf);try (refine ⟨by trivial,?_⟩;conv=>whnf)
     try (refine ⟨by trivial,?_⟩;conv=>whnf)
     simp only [e3];(conv=>whnf);refine cQ [] hcp ?_;(conv=>whnf);exact eQ [0,1,2,3,4,5,7] (by exact ⟨rfl,rfl⟩)
   · (conv=>whnf);try (refine ⟨by trivial,?_⟩;conv=>whnf)
     refine cQ [0,1,2,3,4,5] c_sizeF ?_;(conv=>whnf);try (refine ⟨by trivial,?_⟩;conv=>whnf)
     rw [hw4,hw3,hw5];refine ⟨rfl,by omega,by omega,?_⟩;rw [show 0 + Int.toNat ((fr.length - 1 - n.toNat : Nat) : Int) = fr.length - 1 - n.toNat by rw [Nat.zero_add,Int.toNat_natCast]];(conv=>whnf);refine ⟨rfl,by omega,(by decide : 0 + 6 ≤ 6),?_⟩;rw [show fr.getD (fr.length - 1 - n.toNat) (S.zero .frame) = _ from hf];(conv=>whnf);try (refine ⟨by trivial,?_⟩;conv=>whnf)
     try (refine ⟨by trivial,?_⟩;conv=>whnf)
     simp only [e3];(conv=>whnf);refine cQ [] hcp ?_;(conv=>whnf);exact eQ [0,1,2,3,4,5,7] (by exact ⟨rfl,rfl⟩)
def labR (l : List El_grp) (lo : List El_vt) (se : List Bool) (re : List El_vt) (m : Nat) (C : Cp) (op : List El_vt) (fr : List El_frame) (o : Option (List El_vt)) (r : V) (H : Heap KT ElT) : Prop := match o with
 | none => r = .tup [.nils,.int .i64 133] ∧ H = ck l lo se re m C op fr
 | some q => r = .tup [.own .vt 6 0 q.length .whole,.int .i64 0] ∧ H = ck l lo se re m C op fr ++ [.row .vt q]
theorem c_Label (n : Int) (hn : U32 n) (hfl : fr.length ≤ 4000000) (hg : ∀ f ∈ fr,(f.inn.getD []).length ≤ 1048576 ∧ (f.out.getD []).length ≤ 1048576) :
    Spec S 101 [.ptr 0 0,.int .u32 n] (ck l lo se re m C op fr) (labR l lo se re m C op fr (labF fr n)) := by
 unfold labF labR
 by_cases hlt : n < fr.length
 · rw [if_pos hlt];have h0 := hn.1;have hx := getD_at (show fr.length - 1 - n.toNat < fr.length by omega) zfr;have hgx := hg _ (List.mem_of_getElem? hx);generalize hq : fr.getD (fr.length - 1 - n.toNat) zfr = f at hx hgx;unfold labL
   by_cases h3 : f.op = 3
   · rw [if_pos h3]; exact c_Label1 n hn hfl hlt f hq h3 hgx.1
   · rw [if_neg h3]; exact c_Label2 n hn hfl hlt f hq h3 hgx.2
 · rw [if_neg hlt]; exact c_Label0 n hn hfl hlt
theorem c_SwapOO (G : Gd l fs f h m C op) (xs ys : List El_vt) (n1 n2 : Nat) (c1 c2 : Cp) (h1 : n1 ≤ xs.length) (h2 : n2 ≤ ys.length) (hq : n1 ≤ 4000000) (ho : n2 ≤ 16000000) :
    Spec S 17 [.ptr 0 0,.own .vt 6 0 n1 c1,.own .vt 7 0 n2 c2] (ck l lo se re m C op (fs ++ [f]) ++ [.row .vt xs,.row .vt ys]) fun r H => r = .int .i64 (swapL l h f.dead (op.take m) (xs.take n1) (ys.take n2)).1 ∧ ∃ m' C' op',m' ≤ op'.length ∧ C' ≠ .unk ∧ op'.take m' = (swapL l h f.dead (op.take m) (xs.take n1) (ys.take n2)).2 ∧
     H = [ckC l lo.length se.length re.length (.own .vt 8 0 m' C') (.own .frame 5 0 (fs ++ [f]).length .whole),.row .vt lo,.row .bool se,.row .vt re,.gone,.row .frame (fs ++ [f]),.gone,.gone,.row .vt op'] := by
 refine Spec.relo ok [0,1,2,3,4,5] [6,7] (by rfl) ⟨trivial,⟨rfl,by omega⟩,⟨rfl,by omega⟩,trivial⟩ (by repeat' first | exact trivial | refine And.intro ?_ ?_) (c_Swap G.hl G.hg fs f h G.hf G.hh G.hm G.hm2 G.hC ((xs.drop 0).take n1) ((ys.drop 0).take n2) (by simp; omega) (by simp; omega)) ?_;rintro r H' ⟨rfl,m',C',op',h1,h2,h3,rfl⟩;exact ⟨2,[0,1,2,3,4,5,7,8,6],rfl,rfl,by rw [List.drop_zero,List.drop_zero]; rfl,m',C',op',h1,h2,by rw [h3,List.drop_zero,List.drop_zero],rfl⟩
end Ck
end Sh
end Go.Proofs.YtomdfaelgcefdaaGreatDoor
