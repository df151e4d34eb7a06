/- All operators, rising. -/
import Derived.Test.YtoegodeglgeomaaDoorUNameEq
namespace Go.Proofs.YtoegodeglgeomaaDoor
open Go
namespace Sh

def nE : ByteArray := ⟨#[]⟩
def hasOp (op : Int) : Bool := !(strEq (refL op) nE)

def opsB (k : Nat) : List Int := ((List.range k).map fun (i : Nat) => 69 + (i : Int)).filter hasOp
def opsA (k : Nat) : List Int := ((List.range k).map fun (i : Nat) => (i : Int)).filter hasOp

theorem opsB_succ (k : Nat) : opsB (k + 1) = opsB k ++ (if hasOp (69 + (k : Int)) then [69 + (k : Int)] else []) := by
  simp only [opsB, List.range_succ, List.map_append, List.filter_append, List.map_cons, List.map_nil, List.filter_cons, List.filter_nil]
theorem opsA_succ (k : Nat) : opsA (k + 1) = opsA k ++ (if hasOp (k : Int) then [(k : Int)] else []) := by
  simp only [opsA, List.range_succ, List.map_append, List.filter_append, List.map_cons, List.map_nil, List.filter_cons, List.filter_nil]
theorem opsB_len (k : Nat) : (opsB k).length ≤ k := by
  unfold opsB; exact Nat.le_trans (List.length_filter_le _ _) (by simp)
theorem opsA_len (k : Nat) : (opsA k).length ≤ k := by
  unfold opsA; exact Nat.le_trans (List.length_filter_le _ _) (by simp)
theorem ops_same : opsB 128 = opsA 256 := by
  have : (opsB 128 == opsA 256) = true := by kernel_rfl
  exact eq_of_beq this
theorem opsA_pre {k : Nat} : ∀ {m : Nat}, k ≤ m → ∃ r, opsA m = opsA k ++ r
  | 0, h => ⟨[], by obtain rfl : k = 0 := by omega
                    simp⟩
  | m + 1, h => by
    by_cases he : k = m + 1
    · subst he; exact ⟨[], by simp⟩
    · obtain ⟨r, hr⟩ := opsA_pre (k := k) (m := m) (by omega)
      exact ⟨r ++ (if hasOp (m : Int) then [(m : Int)] else []), by rw [opsA_succ, hr, List.append_assoc]⟩
theorem opsA_at {k : Nat} (hk : k < 256) (h : hasOp (k : Int) = true) : (opsA 256)[(opsA k).length]? = some (k : Int) := by
  obtain ⟨r, hr⟩ := opsA_pre (k := k + 1) (m := 256) (by omega)
  rw [hr, opsA_succ, if_pos h, List.append_assoc, List.getElem?_append_right (Nat.le_refl _)]
  simp
theorem ops_any (op : Int) : (opsA 256).any (fun x => x == op) = hasOp op := by
  cases hb : hasOp op with
  | true =>
    have hin : ¬ (op < 69 ∨ 196 < op) := fun h => by
      rw [hasOp, refL_out h] at hb
      exact absurd hb (by decide)
    refine List.any_eq_true.2 ⟨op, ?_, by simp⟩
    refine List.mem_filter.2 ⟨List.mem_map.2 ⟨op.toNat, by simp; omega, by omega⟩, hb⟩
  | false =>
    refine List.any_eq_false.2 fun x hx => ?_
    have := (List.mem_filter.1 hx).2
    intro he
    have : x = op := by simpa using he
    subst this
    simp_all

set_option maxRecDepth 100000 in
theorem c_Name (op : Int) : SpecD S 19 [.int .i64 op] [] (.str (refL op)) [] := by
  have h := c_find op
  rw [names_eq] at h
  refine specE ok sh19 rfl ?_
  conv => whnf
  refine call_of [] (h) (by rfl) (by rfl) ?_
  conv => whnf
  exact end_of [] (by rfl) (by rfl) (by rfl) (by exact ⟨rfl, rfl⟩)

def opV (k : Int) (m : Nat) : List V := [.own .int 0 0 m .whole, .int .i64 k]
def opH (l : List Int) : Heap KT ElT := [.row .int l]

set_option maxRecDepth 100000 in
theorem c_Ops : SpecD S 11 [] [] (.own .int 0 0 (opsA 256).length .whole) [.row .int (opsA 256)] := by
  rw [← ops_same]
  refine specE ok sh11 rfl ?_
  conv => whnf
  refine loop_of [.slot 1 .int] [0] (fun vs H => ∃ k : Nat, k ≤ 128 ∧ vs = opV (69 + (k : Int)) (opsB k).length ∧ H = opH (opsB k))
    (fun vs _ => match vs with | [_, .int _ j] => 300 - j.toNat | _ => 0) (by rfl) (by rfl) (by rfl) (by rfl) ⟨0, by omega, rfl, rfl⟩ ?_
  rintro vs H1 ⟨k, hk, rfl, rfl⟩
  conv => whnf
  have hl := opsB_len k
  have hs := opsB_succ k
  have hw : IntKind.i64.wrap (69 + (k : Int) + 1) = 69 + ((k + 1 : Nat) : Int) := (wrap_i64 (by omega) (by omega)).trans (by omega)
  have hm : 300 - (IntKind.i64.wrap (69 + (k : Int) + 1)).toNat < 300 - (69 + (k : Int)).toNat := by rw [hw]; omega
  cases hd : decide (69 + (k : Int) ≤ 196)
  · conv => whnf
    have := of_decide_eq_false hd
    obtain rfl : k = 128 := by omega
    exact end_of [0] (by rfl) (by rfl) (by rfl) (by exact ⟨rfl, rfl⟩)
  · conv => whnf
    refine call_of [] (c_Name (69 + (k : Int))) (by rfl) (by rfl) ?_
    conv => whnf
    cases hb : strEq (refL (69 + (k : Int))) ⟨#[]⟩
    · conv => whnf
      have hh : hasOp (69 + (k : Int)) = true := by show (!(strEq (refL (69 + (k : Int))) ⟨#[]⟩)) = true; rw [hb]; rfl
      rw [if_pos hh] at hs
      refine ⟨rfl, by simp, ?_⟩
      conv => whnf
      refine ⟨rfl, by simp, ⟨by unfold maxLen; simp; omega, by simp [S]; omega⟩, rfl, ?_⟩
      conv => whnf
      refine ⟨[2], [], relo_of [2] (by rfl) (by rfl), ?_⟩
      refine ⟨⟨k + 1, by have := of_decide_eq_true hd; omega, ?_, ?_⟩, hm⟩
      · show opV (IntKind.i64.wrap (69 + (k : Int) + 1)) ((opsB k).length + 1) = _
        rw [hw, hs]; simp
      · show opH ((opsB k).take (opsB k).length ++ [69 + (k : Int)]) = _
        rw [hs, List.take_length]
    · conv => whnf
      have hh : ¬ hasOp (69 + (k : Int)) = true := by show ¬ (!(strEq (refL (69 + (k : Int))) ⟨#[]⟩)) = true; rw [hb]; simp
      rw [if_neg hh, List.append_nil] at hs
      refine ⟨[0], [], relo_of [0] (by rfl) (by rfl), ?_⟩
      refine ⟨⟨k + 1, by have := of_decide_eq_true hd; omega, ?_, ?_⟩, hm⟩
      · show opV (IntKind.i64.wrap (69 + (k : Int) + 1)) (opsB k).length = _
        rw [hw, hs]
      · show opH (opsB k) = _
        rw [hs]
end Sh
end Go.Proofs.YtoegodeglgeomaaDoor
