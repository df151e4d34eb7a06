/- CrD. -/
import Derived.Test.YtomdfaelgcefdaaGreatDoorGbb
set_option maxRecDepth 100000
set_option maxHeartbeats 64000000
namespace Go.Proofs.YtomdfaelgcefdaaGreatDoor
open Go
namespace Sh
namespace Ck
theorem c_dflR (v : El_vt) : SpecD S 90 [.agg (enc_vt v)] [] (.bool (dfl v)) [] := by
 obtain ⟨a,b,c⟩ := v;refine specE ok sh90 rfl ?_;(conv=>whnf);cases h1 : decide (1 ≤ a)
 · have h1' := of_decide_eq_false h1;(conv=>whnf);cases h6 : (a == 6)
   rotate_left
   · have : a = 6 := by simpa using h6
     omega
   (conv=>whnf);cases h7 : (a == 7)
   rotate_left
   · have : a = 7 := by simpa using h7
     omega
   (conv=>whnf);cases h5 : (a == 5)
   rotate_left
   · have : a = 5 := by simpa using h5
     omega
   have h5' : ¬ a = 5 := by simpa using h5
   (conv=>whnf);refine eQ [] ⟨?_,rfl⟩;show AV.bool false = AV.bool (if a = 5 then b else decide (1 ≤ a ∧ a ≤ 7));rw [if_neg h5',decide_eq_false (by omega)]
 · have h1' := of_decide_eq_true h1;(conv=>whnf);cases h4 : decide (a ≤ 4)
   · have h4' := of_decide_eq_false h4;(conv=>whnf);cases h6 : (a == 6)
     · have h6' : ¬ a = 6 := by simpa using h6
       (conv=>whnf);cases h7 : (a == 7)
       · have h7' : ¬ a = 7 := by simpa using h7
         (conv=>whnf);cases h5 : (a == 5)
         · have h5' : ¬ a = 5 := by simpa using h5
           (conv=>whnf);refine eQ [] ⟨?_,rfl⟩;show AV.bool false = AV.bool (if a = 5 then b else decide (1 ≤ a ∧ a ≤ 7));rw [if_neg h5',decide_eq_false (by omega)]
         · have h5' : a = 5 := by simpa using h5
           subst h5';(conv=>whnf);exact eQ [] ⟨rfl,rfl⟩
       · have h7' : a = 7 := by simpa using h7
         subst h7';(conv=>whnf);exact eQ [] ⟨rfl,rfl⟩
     · have h6' : a = 6 := by simpa using h6
       subst h6';(conv=>whnf);exact eQ [] ⟨rfl,rfl⟩
   · have h4' := of_decide_eq_true h4;(conv=>whnf);refine eQ [] ⟨?_,rfl⟩;show AV.bool true = AV.bool (if a = 5 then b else decide (1 ≤ a ∧ a ≤ 7));rw [if_neg (by omega),decide_eq_true (by omega)]
def rnV1 (ps ls rs : List El_vt) (j : Int) : List V := [.imm .vt ps,.imm .vt ls,.imm .vt rs,.ptr 0 0,.int .i64 j]
def rnV2 (ls rs : List El_vt) (j : Int) : List V := [.imm .vt ls,.imm .vt rs,.ptr 0 0,.int .i64 j]
def rnH (l : List El_grp) (R : V) (xs : List El_vt) (ys : List Bool) : Heap KT ElT := [.cells [.imm .grp l,.own .vt 1 0 xs.length .whole,.own .bool 2 0 ys.length .whole,.nils,.nils,R],.row .vt xs,.row .bool ys]
theorem rnH_eq {l : List El_grp} {R : V} {xs : List El_vt} {ys : List Bool} {y : El_vt} {b : Bool} : rnH l R (xs ++ [y]) (ys ++ [b]) = [.cells [.imm .grp l,.own .vt 1 0 (xs.length + 1) .whole,.own .bool 2 0 (ys.length + 1) .whole,.nils,.nils,R],.row .vt (xs.take xs.length ++ [y]),.row .bool (ys.take ys.length ++ [b])] := by simp [rnH]
theorem c_rNew (l : List El_grp) (ps ls rs : List El_vt) (hp : ps.length ≤ 1048576) (hls : ls.length ≤ 1048576) (hr : rs.length ≤ 1048576) :
    Spec S 43 [.imm .grp l,.imm .vt ps,.imm .vt ls,.imm .vt rs] [] (fun r H => r = .ptr 0 0 ∧ ∃ lo se,lo.length = ps.length + ls.length ∧ se.length = ps.length + ls.length ∧ H = rk l lo se rs [] 0 .whole [⟨2,none,some rs,0,some se,false⟩] .full) := by
 have ho := c_rlistS rs hr;refine specE ok sh43 rfl ?_;(conv=>whnf);refine cQ [] ho ?_;conv=>whnf
 refine loop_of [.cell 0 1 .vt,.cell 0 2 .bool] [0,1,2] (fun vs H => ∃ (j : Nat) (xs : List El_vt) (ys : List Bool),j ≤ ps.length ∧ xs.length = j ∧ ys.length = j ∧ vs = rnV1 ps ls rs j ∧ H = rnH l (.imm .vt rs) xs ys)
  (fun vs _ => match vs with | [_,_,_,_,.int _ j] => ps.length - j.toNat | _ => 0) (by rfl) (by rfl) (by rfl) (by rfl) ⟨0,[],[],Nat.zero_le _,rfl,rfl,rfl,rfl⟩ ?_
 rintro vs H1 ⟨j,xs,ys,hj,hxj,hyj,rfl,rfl⟩;(conv=>whnf);cases hd : decide ((j : Int) < ps.length)
 rotate_left
 · (conv=>whnf);have := of_decide_eq_true hd;have hw : IntKind.i64.wrap ((j : Int) + 1) = ((j + 1 : Nat) : Int) := wrap_i64 (by omega) (by omega);refine ⟨rfl,by omega,by omega,?_⟩;(conv=>whnf);refine ⟨by rw [Int.toNat_natCast]; omega,by decide,?_⟩;generalize ps.getD (Int.toNat (j : Int)) (S.zero .vt) = y;(conv=>whnf);refine tQ ?_;(conv=>whnf);refine ⟨rfl,by simp,?_⟩;(conv=>whnf);refine ⟨rfl,by show 0 + xs.length ≤ xs.length; omega,⟨by show xs.length + 1 ≤ maxLen; unfold maxLen; omega,by show (xs.length + 1) * 24 ≤ _; omega⟩,rfl,?_⟩;(conv=>whnf);refine tQ ?_;(conv=>whnf);refine ⟨rfl,by simp,?_⟩;(conv=>whnf);refine ⟨rfl,by show 0 + ys.length ≤ ys.length; omega,⟨by show ys.length + 1 ≤ maxLen; unfold maxLen; omega,by show (ys.length + 1) * 1 ≤ _; omega⟩,rfl,?_⟩;(conv=>whnf);refine ⟨[0,4,6],[],relo_of [0,4,6] (by rfl) (by rfl),?_⟩;refine ⟨⟨j + 1,xs ++ [y],ys ++ [true],by omega,by simp [hxj],by simp [hyj],congrArg (rnV1 ps ls rs) hw,?_⟩,?_⟩
   · rw [rnH_eq]; rfl
   · show ps.length - (IntKind.i64.wrap ((j : Int) + 1)).toNat < ps.length - (j : Int).toNat;rw [hw]; omega
 have := of_decide_eq_false hd;obtain rfl : j = ps.length := by omega
 conv=>whnf
 refine loop_of [] [0,1,2] (fun vs H => ∃ (j : Nat) (xs : List El_vt) (ys : List Bool),j ≤ ls.length ∧ xs.length = ps.length + j ∧ ys.length = ps.length + j ∧ vs = rnV2 ls rs j ∧ H = rnH l (.imm .vt rs) xs ys)
  (fun vs _ => match vs with | [_,_,_,.int _ j] => ls.length - j.toNat | _ => 0) (by rfl) (by rfl) (by rfl) (by rfl) ⟨0,xs,ys,Nat.zero_le _,hxj,hyj,rfl,rfl⟩ ?_
 clear hxj hyj hj hd this xs ys;rintro vs H1 ⟨j,xs,ys,hj,hxj,hyj,rfl,rfl⟩;(conv=>whnf);cases hd : decide ((j : Int) < ls.length)
 rotate_left
 · (conv=>whnf);have := of_decide_eq_true hd;have hw : IntKind.i64.wrap ((j : Int) + 1) = ((j + 1 : Nat) : Int) := wrap_i64 (by omega) (by omega);refine ⟨rfl,by omega,by omega,?_⟩;(conv=>whnf);refine ⟨by rw [Int.toNat_natCast]; omega,by decide,?_⟩;generalize hy : ls.getD (Int.toNat (j : Int)) (S.zero .vt) = y;(conv=>whnf);refine tQ ?_;(conv=>whnf);refine ⟨rfl,by simp,?_⟩;(conv=>whnf);refine ⟨rfl,by show 0 + xs.length ≤ xs.length; omega,⟨by show xs.length + 1 ≤ maxLen; unfold maxLen; omega,by show (xs.length + 1) * 24 ≤ _; omega⟩,rfl,?_⟩;(conv=>whnf);refine tQ ?_;(conv=>whnf);refine ⟨rfl,by omega,by omega,?_⟩;(conv=>whnf);refine ⟨by rw [Int.toNat_natCast]; omega,by decide,?_⟩;rw [hy];(conv=>whnf);refine cQ [] (c_dflR y) ?_;(conv=>whnf);refine tQ ?_;(conv=>whnf);refine tQ ?_;(conv=>whnf);refine ⟨rfl,by simp,?_⟩;(conv=>whnf);refine ⟨rfl,by show 0 + ys.length ≤ ys.length; omega,⟨by show ys.length + 1 ≤ maxLen; unfold maxLen; omega,by show (ys.length + 1) * 1 ≤ _; omega⟩,rfl,?_⟩;(conv=>whnf);refine tQ ?_;(conv=>whnf);refine ⟨[0,4,6],[],relo_of [0,4,6] (by rfl) (by rfl),?_⟩;refine ⟨⟨j + 1,xs ++ [y],ys ++ [dfl y],by omega,by simp [hxj]; omega,by simp [hyj]; omega,congrArg (rnV2 ls rs) hw,?_⟩,?_⟩
   · rw [rnH_eq]; rfl
   · show ls.length - (IntKind.i64.wrap ((j : Int) + 1)).toNat < ls.length - (j : Int).toNat;rw [hw]; omega
 have := of_decide_eq_false hd;obtain rfl : j = ls.length := by omega
 have h2 := c_rflagsS ys (by omega);(conv=>whnf);refine cQ [] ho ?_;(conv=>whnf);refine tQ ?_;(conv=>whnf);refine cQ [2] h2 ?_;(conv=>whnf);refine tQ ?_;(conv=>whnf);refine tQ ?_;(conv=>whnf);exact endG_of [.cell 0 3 .vt] [0,1,2,4,3] (by rfl) (by rfl) (by rfl) (by rfl) ⟨rfl,xs,ys,hxj,hyj,rfl⟩
end Ck
end Sh
end Go.Proofs.YtomdfaelgcefdaaGreatDoor
