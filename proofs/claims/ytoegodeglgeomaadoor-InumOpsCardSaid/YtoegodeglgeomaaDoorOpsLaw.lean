/- InumOps: the law's contract. -/
import Derived.Test.YtoegodeglgeomaaDoorAri
namespace Go.Proofs.YtoegodeglgeomaaDoor
open Go
namespace Sh

def loV'' (op : Int) (n : Int) (k : Int) : List V := [.int .i64 op, .own .int 0 0 (opsA 256).length .whole, .int .i64 n, .int .i64 k]
def loV' (op : Int) (n : Nat) (k : Int) : List V := [.int .i64 op, .own .int 0 0 (opsA 256).length .whole, .int .i64 n, .int .i64 k]
def loV (op : Int) (n k : Nat) : List V := loV' op n k
def loW'' (op : Int) (L : List Int) (h : Bool) (i : Int) : List V := [.int .i64 op, .own .int 0 0 L.length .whole, .int .i64 L.length, .bool h, .int .i64 i]
def loW' (op : Int) (L : List Int) (h : Bool) (i : Nat) : List V := loW'' op L h i

theorem take_any (l : List Int) (op : Int) (i : Nat) (h : i < l.length) : (l.take (i + 1)).any (· == op) = ((l.take i).any (· == op) || (l[i] == op)) := by
  rw [List.take_succ_eq_append_getElem h, List.any_append]
  simp

set_option maxRecDepth 100000 in
theorem c_ops_law (op : Int) : SpecD S 3 [.int .i64 op] [] (.bool true) [] := by
  refine specE ok sh3 rfl ?_
  conv => whnf
  refine call_of [] (c_Ops) (by rfl) (by rfl) ?_
  conv => whnf
  refine loop_of [] [0] (fun vs H => ∃ k : Nat, k ≤ 256 ∧ vs = loV op (opsA k).length k ∧ H = [.row .int (opsA 256)])
    (fun vs _ => match vs with | [_, _, _, .int _ k] => 256 - k.toNat | _ => 0) (by rfl) (by rfl) (by rfl) (by rfl) ⟨0, by omega, rfl, rfl⟩ ?_
  rintro vs H1 ⟨k, hk, rfl, rfl⟩
  have hl := opsA_len k
  have hs := opsA_succ k
  conv => whnf
  cases hd : decide ((k : Int) < 256)
  · have := of_decide_eq_false hd
    obtain rfl : k = 256 := by omega
    have hA : opsA 256 = opsA 256 := rfl
    generalize hL : (opsA 256) = L at *
    conv => whnf
    refine loop_of [] [0] (fun vs H => ∃ i : Nat, i ≤ L.length ∧ vs = loW' op L ((L.take i).any (· == op)) i ∧ H = [.row .int L])
      (fun vs _ => match vs with | [_, _, _, _, .int _ k] => 300 - k.toNat | _ => 0) (by rfl) (by rfl) (by rfl) (by rfl) ⟨0, by omega, rfl, rfl⟩ ?_
    rintro vs H1 ⟨i, hi, rfl, rfl⟩
    conv => whnf
    have hw : IntKind.i64.wrap ((i : Int) + 1) = ((i + 1 : Nat) : Int) := wrap_i64 (by omega) (by omega)
    cases hd2 : decide ((i : Int) < (L.length : Int))
    · have := of_decide_eq_false hd2
      obtain rfl : i = L.length := by omega
      conv => whnf
      have e1 : ((L.length : Int) == (L.length : Int)) = true := by simp
      simp only [e1]
      conv => whnf
      refine call_of [] (c_rArity op) (by rfl) (by rfl) ?_
      conv => whnf
      have ha := aR_has op
      have hb := ops_any op
      have e2 : ((L.take L.length).any (fun x => x == op) == (aR (refL op) != 0)) = true := by
        rw [List.take_length, ← hL, hb]
        show (hasOp op == !(aR (refL op) == 0)) = true
        rw [ha]; cases hasOp op <;> rfl
      simp only [e2]
      conv => whnf
      exact end_of [] (by rfl) (by rfl) (by rfl) (by exact ⟨rfl, rfl⟩)
    · have hlt := of_decide_eq_true hd2
      have hlt' : i < L.length := by omega
      have ht := take_any L op i hlt'
      have hm : 300 - (IntKind.i64.wrap ((i : Int) + 1)).toNat < 300 - (i : Int).toNat := by rw [hw]; omega
      conv => whnf
      cases hb : (L.take i).any (fun x => x == op)
      · conv => whnf
        refine ⟨rfl, by omega, by omega, ?_⟩
        conv => whnf
        refine ⟨rfl, by omega, (by decide : 0 + 1 ≤ 1), ?_⟩
        conv => whnf
        refine ⟨[0], [], relo_of [0] (by rfl) (by rfl), ?_⟩
        refine ⟨⟨i + 1, by omega, ?_, rfl⟩, hm⟩
        have eg : L.getD (0 + (i : Int).toNat) (S.zero KT.int) = L[i] := by rw [Nat.zero_add, Int.toNat_natCast, List.getD_eq_getElem?_getD, List.getElem?_eq_getElem hlt']; rfl
        show loW'' op L (L.getD (0 + (i : Int).toNat) (S.zero KT.int) == op) (IntKind.i64.wrap ((i : Int) + 1)) = _
        rw [eg, ht, hb, hw, Bool.false_or]; rfl
      · conv => whnf
        refine ⟨[0], [], relo_of [0] (by rfl) (by rfl), ?_⟩
        refine ⟨⟨i + 1, by omega, ?_, rfl⟩, hm⟩
        rw [ht, hb]
        show loW'' op L true (IntKind.i64.wrap ((i : Int) + 1)) = _
        rw [hw]; rfl
  · conv => whnf
    have hlt := of_decide_eq_true hd
    have hw : IntKind.i64.wrap ((k : Int) + 1) = ((k + 1 : Nat) : Int) := wrap_i64 (by omega) (by omega)
    have hm : 256 - (IntKind.i64.wrap ((k : Int) + 1)).toNat < 256 - (k : Int).toNat := by rw [hw]; omega
    refine call_of [] (c_rArity (k : Int)) (by rfl) (by rfl) ?_
    conv => whnf
    have ha := aR_has (k : Int)
    cases hh : hasOp (k : Int)
    · rw [hh] at ha hs
      simp only [ha]
      conv => whnf
      refine ⟨[0], [], relo_of [0] (by rfl) (by rfl), ?_⟩
      refine ⟨⟨k + 1, by omega, ?_, rfl⟩, hm⟩
      show loV' op (opsA k).length (IntKind.i64.wrap ((k : Int) + 1)) = _
      rw [hw, hs]; simp [loV, loV']
    · have hat := opsA_at (by omega : k < 256) hh
      obtain ⟨hat1, hat2⟩ := List.getElem?_eq_some_iff.1 hat
      rw [hh] at ha hs
      simp only [ha]
      conv => whnf
      have e1 : decide (((opsA 256).length : Int) ≤ ((opsA k).length : Int)) = false := decide_eq_false (by omega)
      have eg : (opsA 256).getD (0 + ((opsA k).length : Int).toNat) (S.zero KT.int) = (k : Int) := by rw [Nat.zero_add, Int.toNat_natCast, List.getD_eq_getElem?_getD, hat]; rfl
      have e2 : ((k : Int) != (k : Int)) = false := by simp
      have hln : (opsA 256).length ≤ 256 := opsA_len 256
      have hwn : IntKind.i64.wrap (((opsA k).length : Int) + 1) = (((opsA k).length + 1 : Nat) : Int) := wrap_i64 (by omega) (by omega)
      simp only [e1]
      conv => whnf
      refine ⟨rfl, by omega, by omega, ?_⟩
      conv => whnf
      refine ⟨rfl, by omega, (by decide : 0 + 1 ≤ 1), ?_⟩
      conv => whnf
      simp only [eg, e2]
      conv => whnf
      refine ⟨[0], [], relo_of [0] (by rfl) (by rfl), ?_⟩
      refine ⟨⟨k + 1, by omega, ?_, rfl⟩, hm⟩
      show loV'' op (IntKind.i64.wrap (((opsA k).length : Int) + 1)) (IntKind.i64.wrap ((k : Int) + 1)) = _
      rw [hwn, hw, hs, if_pos rfl, List.length_append]; rfl

end Sh
end Go.Proofs.YtoegodeglgeomaaDoor
