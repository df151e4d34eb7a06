/- MADE BY PROGRAM (kngen.py): what is told of each operator. -/
import Derived.Test.YtoegodeglgeomaaDoorUAri
namespace Go.Proofs.YtoegodeglgeomaaDoor
open Go
namespace Sh

theorem opsA_all : opsA 256 = [69, 70, 71, 72, 73, 74, 75, 76, 77, 78, 79, 80, 81, 82, 83, 84, 85, 86, 87, 88, 89, 90, 103, 104, 105, 106, 107, 108, 109, 110, 111, 112, 113, 114, 115, 116, 117, 118, 119, 120, 121, 122, 123, 124, 125, 126, 127, 128, 129, 130, 131, 132, 133, 134, 135, 136, 137, 138, 167, 172, 173, 192, 193, 194, 195, 196] := by
  have : (opsA 256 == [69, 70, 71, 72, 73, 74, 75, 76, 77, 78, 79, 80, 81, 82, 83, 84, 85, 86, 87, 88, 89, 90, 103, 104, 105, 106, 107, 108, 109, 110, 111, 112, 113, 114, 115, 116, 117, 118, 119, 120, 121, 122, 123, 124, 125, 126, 127, 128, 129, 130, 131, 132, 133, 134, 135, 136, 137, 138, 167, 172, 173, 192, 193, 194, 195, 196]) = true := by kernel_rfl
  exact eq_of_beq this

theorem op_cases (op : Int) : refL op = n_ ∨ op ∈ [69, 70, 71, 72, 73, 74, 75, 76, 77, 78, 79, 80, 81, 82, 83, 84, 85, 86, 87, 88, 89, 90, 103, 104, 105, 106, 107, 108, 109, 110, 111, 112, 113, 114, 115, 116, 117, 118, 119, 120, 121, 122, 123, 124, 125, 126, 127, 128, 129, 130, 131, 132, 133, 134, 135, 136, 137, 138, 167, 172, 173, 192, 193, 194, 195, 196] := by
  rw [← opsA_all]
  cases hb : hasOp op with
  | false => exact .inl (strEq_eq (by have := hb; unfold hasOp at this; have h2 : strEq (refL op) nE = true := by simpa using this
                                      exact h2))
  | true =>
    have h := ops_any op
    rw [hb, List.any_eq_true] at h
    obtain ⟨x, hx, he⟩ := h
    obtain rfl : x = op := by simpa using he
    exact .inr hx

abbrev F2 (op : Int) (n : ByteArray) (w : Bool) : Prop := SpecD S 26 [.int .i64 op] [] (.tup [.str n, .bool w]) []

theorem c_fd_none {op : Int} (h : refL op = n_) : ∃ w, F2 op n_ w := by
  have := c_find op
  have e : findL op GS = (n_, (findL op GS).2) := by rw [← h, ← names_eq]
  rw [e] at this
  exact ⟨_, this⟩

set_option maxRecDepth 100000 in
theorem c_ary0 (op : Int) (h : refL op = n_) : SpecD S 18 [.int .i64 op] [] (.tup [.int .i64 0, .int .i64 1]) [] := by
  have c := c_Name op
  rw [h] at c
  refine specE ok sh18 rfl ?_
  conv => whnf
  refine call_of [] (c) (by rfl) (by rfl) ?_
  conv => whnf
  refine call_of [] (c_ar_) (by rfl) (by rfl) ?_
  conv => whnf
  exact end_of [] (by rfl) (by rfl) (by rfl) (by exact ⟨rfl, rfl⟩)

set_option maxRecDepth 100000 in
theorem c_ary_eqz (op : Int) (h : refL op = n_eqz) : SpecD S 18 [.int .i64 op] [] (.tup [.int .i64 1, .int .i64 0]) [] := by
  have c := c_Name op
  rw [h] at c
  refine specE ok sh18 rfl ?_
  conv => whnf
  refine call_of [] (c) (by rfl) (by rfl) ?_
  conv => whnf
  refine call_of [] (c_ar_eqz) (by rfl) (by rfl) ?_
  conv => whnf
  exact end_of [] (by rfl) (by rfl) (by rfl) (by exact ⟨rfl, rfl⟩)

set_option maxRecDepth 100000 in
theorem c_ary_eq (op : Int) (h : refL op = n_eq) : SpecD S 18 [.int .i64 op] [] (.tup [.int .i64 2, .int .i64 0]) [] := by
  have c := c_Name op
  rw [h] at c
  refine specE ok sh18 rfl ?_
  conv => whnf
  refine call_of [] (c) (by rfl) (by rfl) ?_
  conv => whnf
  refine call_of [] (c_ar_eq) (by rfl) (by rfl) ?_
  conv => whnf
  exact end_of [] (by rfl) (by rfl) (by rfl) (by exact ⟨rfl, rfl⟩)

set_option maxRecDepth 100000 in
theorem c_ary_ne (op : Int) (h : refL op = n_ne) : SpecD S 18 [.int .i64 op] [] (.tup [.int .i64 2, .int .i64 0]) [] := by
  have c := c_Name op
  rw [h] at c
  refine specE ok sh18 rfl ?_
  conv => whnf
  refine call_of [] (c) (by rfl) (by rfl) ?_
  conv => whnf
  refine call_of [] (c_ar_ne) (by rfl) (by rfl) ?_
  conv => whnf
  exact end_of [] (by rfl) (by rfl) (by rfl) (by exact ⟨rfl, rfl⟩)

set_option maxRecDepth 100000 in
theorem c_ary_lt_s (op : Int) (h : refL op = n_lt_s) : SpecD S 18 [.int .i64 op] [] (.tup [.int .i64 2, .int .i64 0]) [] := by
  have c := c_Name op
  rw [h] at c
  refine specE ok sh18 rfl ?_
  conv => whnf
  refine call_of [] (c) (by rfl) (by rfl) ?_
  conv => whnf
  refine call_of [] (c_ar_lt_s) (by rfl) (by rfl) ?_
  conv => whnf
  exact end_of [] (by rfl) (by rfl) (by rfl) (by exact ⟨rfl, rfl⟩)

set_option maxRecDepth 100000 in
theorem c_ary_lt_u (op : Int) (h : refL op = n_lt_u) : SpecD S 18 [.int .i64 op] [] (.tup [.int .i64 2, .int .i64 0]) [] := by
  have c := c_Name op
  rw [h] at c
  refine specE ok sh18 rfl ?_
  conv => whnf
  refine call_of [] (c) (by rfl) (by rfl) ?_
  conv => whnf
  refine call_of [] (c_ar_lt_u) (by rfl) (by rfl) ?_
  conv => whnf
  exact end_of [] (by rfl) (by rfl) (by rfl) (by exact ⟨rfl, rfl⟩)

set_option maxRecDepth 100000 in
theorem c_ary_gt_s (op : Int) (h : refL op = n_gt_s) : SpecD S 18 [.int .i64 op] [] (.tup [.int .i64 2, .int .i64 0]) [] := by
  have c := c_Name op
  rw [h] at c
  refine specE ok sh18 rfl ?_
  conv => whnf
  refine call_of [] (c) (by rfl) (by rfl) ?_
  conv => whnf
  refine call_of [] (c_ar_gt_s) (by rfl) (by rfl) ?_
  conv => whnf
  exact end_of [] (by rfl) (by rfl) (by rfl) (by exact ⟨rfl, rfl⟩)

set_option maxRecDepth 100000 in
theorem c_ary_gt_u (op : Int) (h : refL op = n_gt_u) : SpecD S 18 [.int .i64 op] [] (.tup [.int .i64 2, .int .i64 0]) [] := by
  have c := c_Name op
  rw [h] at c
  refine specE ok sh18 rfl ?_
  conv => whnf
  refine call_of [] (c) (by rfl) (by rfl) ?_
  conv => whnf
  refine call_of [] (c_ar_gt_u) (by rfl) (by rfl) ?_
  conv => whnf
  exact end_of [] (by rfl) (by rfl) (by rfl) (by exact ⟨rfl, rfl⟩)

set_option maxRecDepth 100000 in
theorem c_ary_le_s (op : Int) (h : refL op = n_le_s) : SpecD S 18 [.int .i64 op] [] (.tup [.int .i64 2, .int .i64 0]) [] := by
  have c := c_Name op
  rw [h] at c
  refine specE ok sh18 rfl ?_
  conv => whnf
  refine call_of [] (c) (by rfl) (by rfl) ?_
  conv => whnf
  refine call_of [] (c_ar_le_s) (by rfl) (by rfl) ?_
  conv => whnf
  exact end_of [] (by rfl) (by rfl) (by rfl) (by exact ⟨rfl, rfl⟩)

set_option maxRecDepth 100000 in
theorem c_ary_le_u (op : Int) (h : refL op = n_le_u) : SpecD S 18 [.int .i64 op] [] (.tup [.int .i64 2, .int .i64 0]) [] := by
  have c := c_Name op
  rw [h] at c
  refine specE ok sh18 rfl ?_
  conv => whnf
  refine call_of [] (c) (by rfl) (by rfl) ?_
  conv => whnf
  refine call_of [] (c_ar_le_u) (by rfl) (by rfl) ?_
  conv => whnf
  exact end_of [] (by rfl) (by rfl) (by rfl) (by exact ⟨rfl, rfl⟩)

set_option maxRecDepth 100000 in
theorem c_ary_ge_s (op : Int) (h : refL op = n_ge_s) : SpecD S 18 [.int .i64 op] [] (.tup [.int .i64 2, .int .i64 0]) [] := by
  have c := c_Name op
  rw [h] at c
  refine specE ok sh18 rfl ?_
  conv => whnf
  refine call_of [] (c) (by rfl) (by rfl) ?_
  conv => whnf
  refine call_of [] (c_ar_ge_s) (by rfl) (by rfl) ?_
  conv => whnf
  exact end_of [] (by rfl) (by rfl) (by rfl) (by exact ⟨rfl, rfl⟩)

set_option maxRecDepth 100000 in
theorem c_ary_ge_u (op : Int) (h : refL op = n_ge_u) : SpecD S 18 [.int .i64 op] [] (.tup [.int .i64 2, .int .i64 0]) [] := by
  have c := c_Name op
  rw [h] at c
  refine specE ok sh18 rfl ?_
  conv => whnf
  refine call_of [] (c) (by rfl) (by rfl) ?_
  conv => whnf
  refine call_of [] (c_ar_ge_u) (by rfl) (by rfl) ?_
  conv => whnf
  exact end_of [] (by rfl) (by rfl) (by rfl) (by exact ⟨rfl, rfl⟩)

set_option maxRecDepth 100000 in
theorem c_ary_clz (op : Int) (h : refL op = n_clz) : SpecD S 18 [.int .i64 op] [] (.tup [.int .i64 1, .int .i64 0]) [] := by
  have c := c_Name op
  rw [h] at c
  refine specE ok sh18 rfl ?_
  conv => whnf
  refine call_of [] (c) (by rfl) (by rfl) ?_
  conv => whnf
  refine call_of [] (c_ar_clz) (by rfl) (by rfl) ?_
  conv => whnf
  exact end_of [] (by rfl) (by rfl) (by rfl) (by exact ⟨rfl, rfl⟩)

set_option maxRecDepth 100000 in
theorem c_ary_ctz (op : Int) (h : refL op = n_ctz) : SpecD S 18 [.int .i64 op] [] (.tup [.int .i64 1, .int .i64 0]) [] := by
  have c := c_Name op
  rw [h] at c
  refine specE ok sh18 rfl ?_
  conv => whnf
  refine call_of [] (c) (by rfl) (by rfl) ?_
  conv => whnf
  refine call_of [] (c_ar_ctz) (by rfl) (by rfl) ?_
  conv => whnf
  exact end_of [] (by rfl) (by rfl) (by rfl) (by exact ⟨rfl, rfl⟩)

set_option maxRecDepth 100000 in
theorem c_ary_popcnt (op : Int) (h : refL op = n_popcnt) : SpecD S 18 [.int .i64 op] [] (.tup [.int .i64 1, .int .i64 0]) [] := by
  have c := c_Name op
  rw [h] at c
  refine specE ok sh18 rfl ?_
  conv => whnf
  refine call_of [] (c) (by rfl) (by rfl) ?_
  conv => whnf
  refine call_of [] (c_ar_popcnt) (by rfl) (by rfl) ?_
  conv => whnf
  exact end_of [] (by rfl) (by rfl) (by rfl) (by exact ⟨rfl, rfl⟩)

set_option maxRecDepth 100000 in
theorem c_ary_add (op : Int) (h : refL op = n_add) : SpecD S 18 [.int .i64 op] [] (.tup [.int .i64 2, .int .i64 0]) [] := by
  have c := c_Name op
  rw [h] at c
  refine specE ok sh18 rfl ?_
  conv => whnf
  refine call_of [] (c) (by rfl) (by rfl) ?_
  conv => whnf
  refine call_of [] (c_ar_add) (by rfl) (by rfl) ?_
  conv => whnf
  exact end_of [] (by rfl) (by rfl) (by rfl) (by exact ⟨rfl, rfl⟩)

set_option maxRecDepth 100000 in
theorem c_ary_sub (op : Int) (h : refL op = n_sub) : SpecD S 18 [.int .i64 op] [] (.tup [.int .i64 2, .int .i64 0]) [] := by
  have c := c_Name op
  rw [h] at c
  refine specE ok sh18 rfl ?_
  conv => whnf
  refine call_of [] (c) (by rfl) (by rfl) ?_
  conv => whnf
  refine call_of [] (c_ar_sub) (by rfl) (by rfl) ?_
  conv => whnf
  exact end_of [] (by rfl) (by rfl) (by rfl) (by exact ⟨rfl, rfl⟩)

set_option maxRecDepth 100000 in
theorem c_ary_mul (op : Int) (h : refL op = n_mul) : SpecD S 18 [.int .i64 op] [] (.tup [.int .i64 2, .int .i64 0]) [] := by
  have c := c_Name op
  rw [h] at c
  refine specE ok sh18 rfl ?_
  conv => whnf
  refine call_of [] (c) (by rfl) (by rfl) ?_
  conv => whnf
  refine call_of [] (c_ar_mul) (by rfl) (by rfl) ?_
  conv => whnf
  exact end_of [] (by rfl) (by rfl) (by rfl) (by exact ⟨rfl, rfl⟩)

set_option maxRecDepth 100000 in
theorem c_ary_div_s (op : Int) (h : refL op = n_div_s) : SpecD S 18 [.int .i64 op] [] (.tup [.int .i64 2, .int .i64 0]) [] := by
  have c := c_Name op
  rw [h] at c
  refine specE ok sh18 rfl ?_
  conv => whnf
  refine call_of [] (c) (by rfl) (by rfl) ?_
  conv => whnf
  refine call_of [] (c_ar_div_s) (by rfl) (by rfl) ?_
  conv => whnf
  exact end_of [] (by rfl) (by rfl) (by rfl) (by exact ⟨rfl, rfl⟩)

set_option maxRecDepth 100000 in
theorem c_ary_div_u (op : Int) (h : refL op = n_div_u) : SpecD S 18 [.int .i64 op] [] (.tup [.int .i64 2, .int .i64 0]) [] := by
  have c := c_Name op
  rw [h] at c
  refine specE ok sh18 rfl ?_
  conv => whnf
  refine call_of [] (c) (by rfl) (by rfl) ?_
  conv => whnf
  refine call_of [] (c_ar_div_u) (by rfl) (by rfl) ?_
  conv => whnf
  exact end_of [] (by rfl) (by rfl) (by rfl) (by exact ⟨rfl, rfl⟩)

set_option maxRecDepth 100000 in
theorem c_ary_rem_s (op : Int) (h : refL op = n_rem_s) : SpecD S 18 [.int .i64 op] [] (.tup [.int .i64 2, .int .i64 0]) [] := by
  have c := c_Name op
  rw [h] at c
  refine specE ok sh18 rfl ?_
  conv => whnf
  refine call_of [] (c) (by rfl) (by rfl) ?_
  conv => whnf
  refine call_of [] (c_ar_rem_s) (by rfl) (by rfl) ?_
  conv => whnf
  exact end_of [] (by rfl) (by rfl) (by rfl) (by exact ⟨rfl, rfl⟩)

set_option maxRecDepth 100000 in
theorem c_ary_rem_u (op : Int) (h : refL op = n_rem_u) : SpecD S 18 [.int .i64 op] [] (.tup [.int .i64 2, .int .i64 0]) [] := by
  have c := c_Name op
  rw [h] at c
  refine specE ok sh18 rfl ?_
  conv => whnf
  refine call_of [] (c) (by rfl) (by rfl) ?_
  conv => whnf
  refine call_of [] (c_ar_rem_u) (by rfl) (by rfl) ?_
  conv => whnf
  exact end_of [] (by rfl) (by rfl) (by rfl) (by exact ⟨rfl, rfl⟩)

set_option maxRecDepth 100000 in
theorem c_ary_and (op : Int) (h : refL op = n_and) : SpecD S 18 [.int .i64 op] [] (.tup [.int .i64 2, .int .i64 0]) [] := by
  have c := c_Name op
  rw [h] at c
  refine specE ok sh18 rfl ?_
  conv => whnf
  refine call_of [] (c) (by rfl) (by rfl) ?_
  conv => whnf
  refine call_of [] (c_ar_and) (by rfl) (by rfl) ?_
  conv => whnf
  exact end_of [] (by rfl) (by rfl) (by rfl) (by exact ⟨rfl, rfl⟩)

set_option maxRecDepth 100000 in
theorem c_ary_or (op : Int) (h : refL op = n_or) : SpecD S 18 [.int .i64 op] [] (.tup [.int .i64 2, .int .i64 0]) [] := by
  have c := c_Name op
  rw [h] at c
  refine specE ok sh18 rfl ?_
  conv => whnf
  refine call_of [] (c) (by rfl) (by rfl) ?_
  conv => whnf
  refine call_of [] (c_ar_or) (by rfl) (by rfl) ?_
  conv => whnf
  exact end_of [] (by rfl) (by rfl) (by rfl) (by exact ⟨rfl, rfl⟩)

set_option maxRecDepth 100000 in
theorem c_ary_xor (op : Int) (h : refL op = n_xor) : SpecD S 18 [.int .i64 op] [] (.tup [.int .i64 2, .int .i64 0]) [] := by
  have c := c_Name op
  rw [h] at c
  refine specE ok sh18 rfl ?_
  conv => whnf
  refine call_of [] (c) (by rfl) (by rfl) ?_
  conv => whnf
  refine call_of [] (c_ar_xor) (by rfl) (by rfl) ?_
  conv => whnf
  exact end_of [] (by rfl) (by rfl) (by rfl) (by exact ⟨rfl, rfl⟩)

set_option maxRecDepth 100000 in
theorem c_ary_shl (op : Int) (h : refL op = n_shl) : SpecD S 18 [.int .i64 op] [] (.tup [.int .i64 2, .int .i64 0]) [] := by
  have c := c_Name op
  rw [h] at c
  refine specE ok sh18 rfl ?_
  conv => whnf
  refine call_of [] (c) (by rfl) (by rfl) ?_
  conv => whnf
  refine call_of [] (c_ar_shl) (by rfl) (by rfl) ?_
  conv => whnf
  exact end_of [] (by rfl) (by rfl) (by rfl) (by exact ⟨rfl, rfl⟩)

set_option maxRecDepth 100000 in
theorem c_ary_shr_s (op : Int) (h : refL op = n_shr_s) : SpecD S 18 [.int .i64 op] [] (.tup [.int .i64 2, .int .i64 0]) [] := by
  have c := c_Name op
  rw [h] at c
  refine specE ok sh18 rfl ?_
  conv => whnf
  refine call_of [] (c) (by rfl) (by rfl) ?_
  conv => whnf
  refine call_of [] (c_ar_shr_s) (by rfl) (by rfl) ?_
  conv => whnf
  exact end_of [] (by rfl) (by rfl) (by rfl) (by exact ⟨rfl, rfl⟩)

set_option maxRecDepth 100000 in
theorem c_ary_shr_u (op : Int) (h : refL op = n_shr_u) : SpecD S 18 [.int .i64 op] [] (.tup [.int .i64 2, .int .i64 0]) [] := by
  have c := c_Name op
  rw [h] at c
  refine specE ok sh18 rfl ?_
  conv => whnf
  refine call_of [] (c) (by rfl) (by rfl) ?_
  conv => whnf
  refine call_of [] (c_ar_shr_u) (by rfl) (by rfl) ?_
  conv => whnf
  exact end_of [] (by rfl) (by rfl) (by rfl) (by exact ⟨rfl, rfl⟩)

set_option maxRecDepth 100000 in
theorem c_ary_rotl (op : Int) (h : refL op = n_rotl) : SpecD S 18 [.int .i64 op] [] (.tup [.int .i64 2, .int .i64 0]) [] := by
  have c := c_Name op
  rw [h] at c
  refine specE ok sh18 rfl ?_
  conv => whnf
  refine call_of [] (c) (by rfl) (by rfl) ?_
  conv => whnf
  refine call_of [] (c_ar_rotl) (by rfl) (by rfl) ?_
  conv => whnf
  exact end_of [] (by rfl) (by rfl) (by rfl) (by exact ⟨rfl, rfl⟩)

set_option maxRecDepth 100000 in
theorem c_ary_rotr (op : Int) (h : refL op = n_rotr) : SpecD S 18 [.int .i64 op] [] (.tup [.int .i64 2, .int .i64 0]) [] := by
  have c := c_Name op
  rw [h] at c
  refine specE ok sh18 rfl ?_
  conv => whnf
  refine call_of [] (c) (by rfl) (by rfl) ?_
  conv => whnf
  refine call_of [] (c_ar_rotr) (by rfl) (by rfl) ?_
  conv => whnf
  exact end_of [] (by rfl) (by rfl) (by rfl) (by exact ⟨rfl, rfl⟩)

set_option maxRecDepth 100000 in
theorem c_ary_extend8_s (op : Int) (h : refL op = n_extend8_s) : SpecD S 18 [.int .i64 op] [] (.tup [.int .i64 1, .int .i64 0]) [] := by
  have c := c_Name op
  rw [h] at c
  refine specE ok sh18 rfl ?_
  conv => whnf
  refine call_of [] (c) (by rfl) (by rfl) ?_
  conv => whnf
  refine call_of [] (c_ar_extend8_s) (by rfl) (by rfl) ?_
  conv => whnf
  exact end_of [] (by rfl) (by rfl) (by rfl) (by exact ⟨rfl, rfl⟩)

set_option maxRecDepth 100000 in
theorem c_ary_extend16_s (op : Int) (h : refL op = n_extend16_s) : SpecD S 18 [.int .i64 op] [] (.tup [.int .i64 1, .int .i64 0]) [] := by
  have c := c_Name op
  rw [h] at c
  refine specE ok sh18 rfl ?_
  conv => whnf
  refine call_of [] (c) (by rfl) (by rfl) ?_
  conv => whnf
  refine call_of [] (c_ar_extend16_s) (by rfl) (by rfl) ?_
  conv => whnf
  exact end_of [] (by rfl) (by rfl) (by rfl) (by exact ⟨rfl, rfl⟩)

set_option maxRecDepth 100000 in
theorem c_ary_extend32_s (op : Int) (h : refL op = n_extend32_s) : SpecD S 18 [.int .i64 op] [] (.tup [.int .i64 1, .int .i64 0]) [] := by
  have c := c_Name op
  rw [h] at c
  refine specE ok sh18 rfl ?_
  conv => whnf
  refine call_of [] (c) (by rfl) (by rfl) ?_
  conv => whnf
  refine call_of [] (c_ar_extend32_s) (by rfl) (by rfl) ?_
  conv => whnf
  exact end_of [] (by rfl) (by rfl) (by rfl) (by exact ⟨rfl, rfl⟩)

set_option maxRecDepth 100000 in
theorem c_ary_extend_i32_s (op : Int) (h : refL op = n_extend_i32_s) : SpecD S 18 [.int .i64 op] [] (.tup [.int .i64 1, .int .i64 0]) [] := by
  have c := c_Name op
  rw [h] at c
  refine specE ok sh18 rfl ?_
  conv => whnf
  refine call_of [] (c) (by rfl) (by rfl) ?_
  conv => whnf
  refine call_of [] (c_ar_extend_i32_s) (by rfl) (by rfl) ?_
  conv => whnf
  exact end_of [] (by rfl) (by rfl) (by rfl) (by exact ⟨rfl, rfl⟩)

set_option maxRecDepth 100000 in
theorem c_ary_extend_i32_u (op : Int) (h : refL op = n_extend_i32_u) : SpecD S 18 [.int .i64 op] [] (.tup [.int .i64 1, .int .i64 0]) [] := by
  have c := c_Name op
  rw [h] at c
  refine specE ok sh18 rfl ?_
  conv => whnf
  refine call_of [] (c) (by rfl) (by rfl) ?_
  conv => whnf
  refine call_of [] (c_ar_extend_i32_u) (by rfl) (by rfl) ?_
  conv => whnf
  exact end_of [] (by rfl) (by rfl) (by rfl) (by exact ⟨rfl, rfl⟩)

set_option maxRecDepth 100000 in
theorem c_ary_wrap_i64 (op : Int) (h : refL op = n_wrap_i64) : SpecD S 18 [.int .i64 op] [] (.tup [.int .i64 1, .int .i64 0]) [] := by
  have c := c_Name op
  rw [h] at c
  refine specE ok sh18 rfl ?_
  conv => whnf
  refine call_of [] (c) (by rfl) (by rfl) ?_
  conv => whnf
  refine call_of [] (c_ar_wrap_i64) (by rfl) (by rfl) ?_
  conv => whnf
  exact end_of [] (by rfl) (by rfl) (by rfl) (by exact ⟨rfl, rfl⟩)

set_option maxRecDepth 100000 in
theorem c_types0 (op : Int) (h : refL op = n_) : SpecD S 21 [.int .i64 op] [] (.tup [.int .i64 0, .int .i64 0, .int .i64 1]) [] := by
  obtain ⟨w, c⟩ := c_fd_none h
  refine specE ok sh21 rfl ?_
  conv => whnf
  refine call_of [] (c) (by rfl) (by rfl) ?_
  conv => whnf
  exact end_of [] (by rfl) (by rfl) (by rfl) (by exact ⟨rfl, rfl⟩)

set_option maxRecDepth 100000 in
theorem c_knows0 (op : Int) (h : refL op = n_) : SpecD S 7 [.int .i64 op] [] (.bool true) [] := by
  have c1 := c_Name op
  have c2 := c_refName op
  rw [h] at c1 c2
  refine specE ok sh7 rfl ?_
  conv => whnf
  refine call_of [] (c_ary0 op h) (by rfl) (by rfl) ?_
  conv => whnf
  refine call_of [] (c_rar_ op h) (by rfl) (by rfl) ?_
  conv => whnf
  refine call_of [] (c1) (by rfl) (by rfl) ?_
  conv => whnf
  refine call_of [] (c2) (by rfl) (by rfl) ?_
  conv => whnf
  refine call_of [] (c_types0 op h) (by rfl) (by rfl) ?_
  conv => whnf
  refine call_of [] (c_awake) (by rfl) (by rfl) ?_
  conv => whnf
  exact end_of [] (by rfl) (by rfl) (by rfl) (by exact ⟨rfl, rfl⟩)

theorem r_69 : refL 69 = n_eqz := by kernel_rfl
theorem f_69 : F2 69 n_eqz false := by
  have := c_find 69
  rw [show findL 69 GS = (n_eqz, false) by kernel_rfl] at this
  exact this

set_option maxRecDepth 100000 in
theorem c_bits_69 : SpecD S 22 [.int .i64 69] [] (.int .i64 32) [] := by
  have c := c_refName 69
  rw [r_69] at c
  refine specE ok sh22 rfl ?_
  conv => whnf
  refine call_of [] (c) (by rfl) (by rfl) ?_
  conv => whnf
  exact end_of [] (by rfl) (by rfl) (by rfl) (by exact ⟨rfl, rfl⟩)

set_option maxRecDepth 100000 in
theorem c_test_69 : SpecD S 30 [.int .i64 69] [] (.bool true) [] := by
  refine specE ok sh30 rfl ?_
  conv => whnf
  exact end_of [] (by rfl) (by rfl) (by rfl) (by exact ⟨rfl, rfl⟩)

set_option maxRecDepth 100000 in
theorem c_ans_69 : SpecD S 23 [.int .i64 69] [] (.int .i64 32) [] := by
  refine specE ok sh23 rfl ?_
  conv => whnf
  refine call_of [] (c_test_69) (by rfl) (by rfl) ?_
  conv => whnf
  exact end_of [] (by rfl) (by rfl) (by rfl) (by exact ⟨rfl, rfl⟩)

set_option maxRecDepth 100000 in
theorem c_types_69 : SpecD S 21 [.int .i64 69] [] (.tup [.int .i64 1, .int .i64 1, .int .i64 0]) [] := by
  refine specE ok sh21 rfl ?_
  conv => whnf
  refine call_of [] (f_69) (by rfl) (by rfl) ?_
  conv => whnf
  exact end_of [] (by rfl) (by rfl) (by rfl) (by exact ⟨rfl, rfl⟩)

set_option maxRecDepth 100000 in
theorem c_knows_69 : SpecD S 7 [.int .i64 69] [] (.bool true) [] := by
  have c1 := c_Name 69
  have c2 := c_refName 69
  rw [r_69] at c1 c2
  refine specE ok sh7 rfl ?_
  conv => whnf
  refine call_of [] (c_ary_eqz 69 r_69) (by rfl) (by rfl) ?_
  conv => whnf
  refine call_of [] (c_rar_eqz 69 r_69) (by rfl) (by rfl) ?_
  conv => whnf
  refine call_of [] (c1) (by rfl) (by rfl) ?_
  conv => whnf
  refine call_of [] (c2) (by rfl) (by rfl) ?_
  conv => whnf
  refine call_of [] (c_types_69) (by rfl) (by rfl) ?_
  conv => whnf
  refine call_of [] (c_bits_69) (by rfl) (by rfl) ?_
  conv => whnf
  refine ⟨by decide, ?_⟩
  conv => whnf
  refine call_of [] (c_ans_69) (by rfl) (by rfl) ?_
  conv => whnf
  refine ⟨by decide, ?_⟩
  conv => whnf
  exact end_of [] (by rfl) (by rfl) (by rfl) (by exact ⟨rfl, rfl⟩)

theorem r_70 : refL 70 = n_eq := by kernel_rfl
theorem f_70 : F2 70 n_eq false := by
  have := c_find 70
  rw [show findL 70 GS = (n_eq, false) by kernel_rfl] at this
  exact this

set_option maxRecDepth 100000 in
theorem c_bits_70 : SpecD S 22 [.int .i64 70] [] (.int .i64 32) [] := by
  have c := c_refName 70
  rw [r_70] at c
  refine specE ok sh22 rfl ?_
  conv => whnf
  refine call_of [] (c) (by rfl) (by rfl) ?_
  conv => whnf
  exact end_of [] (by rfl) (by rfl) (by rfl) (by exact ⟨rfl, rfl⟩)

set_option maxRecDepth 100000 in
theorem c_test_70 : SpecD S 30 [.int .i64 70] [] (.bool true) [] := by
  refine specE ok sh30 rfl ?_
  conv => whnf
  exact end_of [] (by rfl) (by rfl) (by rfl) (by exact ⟨rfl, rfl⟩)

set_option maxRecDepth 100000 in
theorem c_ans_70 : SpecD S 23 [.int .i64 70] [] (.int .i64 32) [] := by
  refine specE ok sh23 rfl ?_
  conv => whnf
  refine call_of [] (c_test_70) (by rfl) (by rfl) ?_
  conv => whnf
  exact end_of [] (by rfl) (by rfl) (by rfl) (by exact ⟨rfl, rfl⟩)

set_option maxRecDepth 100000 in
theorem c_types_70 : SpecD S 21 [.int .i64 70] [] (.tup [.int .i64 1, .int .i64 1, .int .i64 0]) [] := by
  refine specE ok sh21 rfl ?_
  conv => whnf
  refine call_of [] (f_70) (by rfl) (by rfl) ?_
  conv => whnf
  exact end_of [] (by rfl) (by rfl) (by rfl) (by exact ⟨rfl, rfl⟩)

set_option maxRecDepth 100000 in
theorem c_knows_70 : SpecD S 7 [.int .i64 70] [] (.bool true) [] := by
  have c1 := c_Name 70
  have c2 := c_refName 70
  rw [r_70] at c1 c2
  refine specE ok sh7 rfl ?_
  conv => whnf
  refine call_of [] (c_ary_eq 70 r_70) (by rfl) (by rfl) ?_
  conv => whnf
  refine call_of [] (c_rar_eq 70 r_70) (by rfl) (by rfl) ?_
  conv => whnf
  refine call_of [] (c1) (by rfl) (by rfl) ?_
  conv => whnf
  refine call_of [] (c2) (by rfl) (by rfl) ?_
  conv => whnf
  refine call_of [] (c_types_70) (by rfl) (by rfl) ?_
  conv => whnf
  refine call_of [] (c_bits_70) (by rfl) (by rfl) ?_
  conv => whnf
  refine ⟨by decide, ?_⟩
  conv => whnf
  refine call_of [] (c_ans_70) (by rfl) (by rfl) ?_
  conv => whnf
  refine ⟨by decide, ?_⟩
  conv => whnf
  exact end_of [] (by rfl) (by rfl) (by rfl) (by exact ⟨rfl, rfl⟩)

theorem r_71 : refL 71 = n_ne := by kernel_rfl
theorem f_71 : F2 71 n_ne false := by
  have := c_find 71
  rw [show findL 71 GS = (n_ne, false) by kernel_rfl] at this
  exact this

set_option maxRecDepth 100000 in
theorem c_bits_71 : SpecD S 22 [.int .i64 71] [] (.int .i64 32) [] := by
  have c := c_refName 71
  rw [r_71] at c
  refine specE ok sh22 rfl ?_
  conv => whnf
  refine call_of [] (c) (by rfl) (by rfl) ?_
  conv => whnf
  exact end_of [] (by rfl) (by rfl) (by rfl) (by exact ⟨rfl, rfl⟩)

set_option maxRecDepth 100000 in
theorem c_test_71 : SpecD S 30 [.int .i64 71] [] (.bool true) [] := by
  refine specE ok sh30 rfl ?_
  conv => whnf
  exact end_of [] (by rfl) (by rfl) (by rfl) (by exact ⟨rfl, rfl⟩)

set_option maxRecDepth 100000 in
theorem c_ans_71 : SpecD S 23 [.int .i64 71] [] (.int .i64 32) [] := by
  refine specE ok sh23 rfl ?_
  conv => whnf
  refine call_of [] (c_test_71) (by rfl) (by rfl) ?_
  conv => whnf
  exact end_of [] (by rfl) (by rfl) (by rfl) (by exact ⟨rfl, rfl⟩)

set_option maxRecDepth 100000 in
theorem c_types_71 : SpecD S 21 [.int .i64 71] [] (.tup [.int .i64 1, .int .i64 1, .int .i64 0]) [] := by
  refine specE ok sh21 rfl ?_
  conv => whnf
  refine call_of [] (f_71) (by rfl) (by rfl) ?_
  conv => whnf
  exact end_of [] (by rfl) (by rfl) (by rfl) (by exact ⟨rfl, rfl⟩)

set_option maxRecDepth 100000 in
theorem c_knows_71 : SpecD S 7 [.int .i64 71] [] (.bool true) [] := by
  have c1 := c_Name 71
  have c2 := c_refName 71
  rw [r_71] at c1 c2
  refine specE ok sh7 rfl ?_
  conv => whnf
  refine call_of [] (c_ary_ne 71 r_71) (by rfl) (by rfl) ?_
  conv => whnf
  refine call_of [] (c_rar_ne 71 r_71) (by rfl) (by rfl) ?_
  conv => whnf
  refine call_of [] (c1) (by rfl) (by rfl) ?_
  conv => whnf
  refine call_of [] (c2) (by rfl) (by rfl) ?_
  conv => whnf
  refine call_of [] (c_types_71) (by rfl) (by rfl) ?_
  conv => whnf
  refine call_of [] (c_bits_71) (by rfl) (by rfl) ?_
  conv => whnf
  refine ⟨by decide, ?_⟩
  conv => whnf
  refine call_of [] (c_ans_71) (by rfl) (by rfl) ?_
  conv => whnf
  refine ⟨by decide, ?_⟩
  conv => whnf
  exact end_of [] (by rfl) (by rfl) (by rfl) (by exact ⟨rfl, rfl⟩)

theorem r_72 : refL 72 = n_lt_s := by kernel_rfl
theorem f_72 : F2 72 n_lt_s false := by
  have := c_find 72
  rw [show findL 72 GS = (n_lt_s, false) by kernel_rfl] at this
  exact this

set_option maxRecDepth 100000 in
theorem c_bits_72 : SpecD S 22 [.int .i64 72] [] (.int .i64 32) [] := by
  have c := c_refName 72
  rw [r_72] at c
  refine specE ok sh22 rfl ?_
  conv => whnf
  refine call_of [] (c) (by rfl) (by rfl) ?_
  conv => whnf
  exact end_of [] (by rfl) (by rfl) (by rfl) (by exact ⟨rfl, rfl⟩)

set_option maxRecDepth 100000 in
theorem c_test_72 : SpecD S 30 [.int .i64 72] [] (.bool true) [] := by
  refine specE ok sh30 rfl ?_
  conv => whnf
  exact end_of [] (by rfl) (by rfl) (by rfl) (by exact ⟨rfl, rfl⟩)

set_option maxRecDepth 100000 in
theorem c_ans_72 : SpecD S 23 [.int .i64 72] [] (.int .i64 32) [] := by
  refine specE ok sh23 rfl ?_
  conv => whnf
  refine call_of [] (c_test_72) (by rfl) (by rfl) ?_
  conv => whnf
  exact end_of [] (by rfl) (by rfl) (by rfl) (by exact ⟨rfl, rfl⟩)

set_option maxRecDepth 100000 in
theorem c_types_72 : SpecD S 21 [.int .i64 72] [] (.tup [.int .i64 1, .int .i64 1, .int .i64 0]) [] := by
  refine specE ok sh21 rfl ?_
  conv => whnf
  refine call_of [] (f_72) (by rfl) (by rfl) ?_
  conv => whnf
  exact end_of [] (by rfl) (by rfl) (by rfl) (by exact ⟨rfl, rfl⟩)

set_option maxRecDepth 100000 in
theorem c_knows_72 : SpecD S 7 [.int .i64 72] [] (.bool true) [] := by
  have c1 := c_Name 72
  have c2 := c_refName 72
  rw [r_72] at c1 c2
  refine specE ok sh7 rfl ?_
  conv => whnf
  refine call_of [] (c_ary_lt_s 72 r_72) (by rfl) (by rfl) ?_
  conv => whnf
  refine call_of [] (c_rar_lt_s 72 r_72) (by rfl) (by rfl) ?_
  conv => whnf
  refine call_of [] (c1) (by rfl) (by rfl) ?_
  conv => whnf
  refine call_of [] (c2) (by rfl) (by rfl) ?_
  conv => whnf
  refine call_of [] (c_types_72) (by rfl) (by rfl) ?_
  conv => whnf
  refine call_of [] (c_bits_72) (by rfl) (by rfl) ?_
  conv => whnf
  refine ⟨by decide, ?_⟩
  conv => whnf
  refine call_of [] (c_ans_72) (by rfl) (by rfl) ?_
  conv => whnf
  refine ⟨by decide, ?_⟩
  conv => whnf
  exact end_of [] (by rfl) (by rfl) (by rfl) (by exact ⟨rfl, rfl⟩)

theorem r_73 : refL 73 = n_lt_u := by kernel_rfl
theorem f_73 : F2 73 n_lt_u false := by
  have := c_find 73
  rw [show findL 73 GS = (n_lt_u, false) by kernel_rfl] at this
  exact this

set_option maxRecDepth 100000 in
theorem c_bits_73 : SpecD S 22 [.int .i64 73] [] (.int .i64 32) [] := by
  have c := c_refName 73
  rw [r_73] at c
  refine specE ok sh22 rfl ?_
  conv => whnf
  refine call_of [] (c) (by rfl) (by rfl) ?_
  conv => whnf
  exact end_of [] (by rfl) (by rfl) (by rfl) (by exact ⟨rfl, rfl⟩)

set_option maxRecDepth 100000 in
theorem c_test_73 : SpecD S 30 [.int .i64 73] [] (.bool true) [] := by
  refine specE ok sh30 rfl ?_
  conv => whnf
  exact end_of [] (by rfl) (by rfl) (by rfl) (by exact ⟨rfl, rfl⟩)

set_option maxRecDepth 100000 in
theorem c_ans_73 : SpecD S 23 [.int .i64 73] [] (.int .i64 32) [] := by
  refine specE ok sh23 rfl ?_
  conv => whnf
  refine call_of [] (c_test_73) (by rfl) (by rfl) ?_
  conv => whnf
  exact end_of [] (by rfl) (by rfl) (by rfl) (by exact ⟨rfl, rfl⟩)

set_option maxRecDepth 100000 in
theorem c_types_73 : SpecD S 21 [.int .i64 73] [] (.tup [.int .i64 1, .int .i64 1, .int .i64 0]) [] := by
  refine specE ok sh21 rfl ?_
  conv => whnf
  refine call_of [] (f_73) (by rfl) (by rfl) ?_
  conv => whnf
  exact end_of [] (by rfl) (by rfl) (by rfl) (by exact ⟨rfl, rfl⟩)

set_option maxRecDepth 100000 in
theorem c_knows_73 : SpecD S 7 [.int .i64 73] [] (.bool true) [] := by
  have c1 := c_Name 73
  have c2 := c_refName 73
  rw [r_73] at c1 c2
  refine specE ok sh7 rfl ?_
  conv => whnf
  refine call_of [] (c_ary_lt_u 73 r_73) (by rfl) (by rfl) ?_
  conv => whnf
  refine call_of [] (c_rar_lt_u 73 r_73) (by rfl) (by rfl) ?_
  conv => whnf
  refine call_of [] (c1) (by rfl) (by rfl) ?_
  conv => whnf
  refine call_of [] (c2) (by rfl) (by rfl) ?_
  conv => whnf
  refine call_of [] (c_types_73) (by rfl) (by rfl) ?_
  conv => whnf
  refine call_of [] (c_bits_73) (by rfl) (by rfl) ?_
  conv => whnf
  refine ⟨by decide, ?_⟩
  conv => whnf
  refine call_of [] (c_ans_73) (by rfl) (by rfl) ?_
  conv => whnf
  refine ⟨by decide, ?_⟩
  conv => whnf
  exact end_of [] (by rfl) (by rfl) (by rfl) (by exact ⟨rfl, rfl⟩)

theorem r_74 : refL 74 = n_gt_s := by kernel_rfl
theorem f_74 : F2 74 n_gt_s false := by
  have := c_find 74
  rw [show findL 74 GS = (n_gt_s, false) by kernel_rfl] at this
  exact this

set_option maxRecDepth 100000 in
theorem c_bits_74 : SpecD S 22 [.int .i64 74] [] (.int .i64 32) [] := by
  have c := c_refName 74
  rw [r_74] at c
  refine specE ok sh22 rfl ?_
  conv => whnf
  refine call_of [] (c) (by rfl) (by rfl) ?_
  conv => whnf
  exact end_of [] (by rfl) (by rfl) (by rfl) (by exact ⟨rfl, rfl⟩)

set_option maxRecDepth 100000 in
theorem c_test_74 : SpecD S 30 [.int .i64 74] [] (.bool true) [] := by
  refine specE ok sh30 rfl ?_
  conv => whnf
  exact end_of [] (by rfl) (by rfl) (by rfl) (by exact ⟨rfl, rfl⟩)

set_option maxRecDepth 100000 in
theorem c_ans_74 : SpecD S 23 [.int .i64 74] [] (.int .i64 32) [] := by
  refine specE ok sh23 rfl ?_
  conv => whnf
  refine call_of [] (c_test_74) (by rfl) (by rfl) ?_
  conv => whnf
  exact end_of [] (by rfl) (by rfl) (by rfl) (by exact ⟨rfl, rfl⟩)

set_option maxRecDepth 100000 in
theorem c_types_74 : SpecD S 21 [.int .i64 74] [] (.tup [.int .i64 1, .int .i64 1, .int .i64 0]) [] := by
  refine specE ok sh21 rfl ?_
  conv => whnf
  refine call_of [] (f_74) (by rfl) (by rfl) ?_
  conv => whnf
  exact end_of [] (by rfl) (by rfl) (by rfl) (by exact ⟨rfl, rfl⟩)

set_option maxRecDepth 100000 in
theorem c_knows_74 : SpecD S 7 [.int .i64 74] [] (.bool true) [] := by
  have c1 := c_Name 74
  have c2 := c_refName 74
  rw [r_74] at c1 c2
  refine specE ok sh7 rfl ?_
  conv => whnf
  refine call_of [] (c_ary_gt_s 74 r_74) (by rfl) (by rfl) ?_
  conv => whnf
  refine call_of [] (c_rar_gt_s 74 r_74) (by rfl) (by rfl) ?_
  conv => whnf
  refine call_of [] (c1) (by rfl) (by rfl) ?_
  conv => whnf
  refine call_of [] (c2) (by rfl) (by rfl) ?_
  conv => whnf
  refine call_of [] (c_types_74) (by rfl) (by rfl) ?_
  conv => whnf
  refine call_of [] (c_bits_74) (by rfl) (by rfl) ?_
  conv => whnf
  refine ⟨by decide, ?_⟩
  conv => whnf
  refine call_of [] (c_ans_74) (by rfl) (by rfl) ?_
  conv => whnf
  refine ⟨by decide, ?_⟩
  conv => whnf
  exact end_of [] (by rfl) (by rfl) (by rfl) (by exact ⟨rfl, rfl⟩)

theorem r_75 : refL 75 = n_gt_u := by kernel_rfl
theorem f_75 : F2 75 n_gt_u false := by
  have := c_find 75
  rw [show findL 75 GS = (n_gt_u, false) by kernel_rfl] at this
  exact this

set_option maxRecDepth 100000 in
theorem c_bits_75 : SpecD S 22 [.int .i64 75] [] (.int .i64 32) [] := by
  have c := c_refName 75
  rw [r_75] at c
  refine specE ok sh22 rfl ?_
  conv => whnf
  refine call_of [] (c) (by rfl) (by rfl) ?_
  conv => whnf
  exact end_of [] (by rfl) (by rfl) (by rfl) (by exact ⟨rfl, rfl⟩)

set_option maxRecDepth 100000 in
theorem c_test_75 : SpecD S 30 [.int .i64 75] [] (.bool true) [] := by
  refine specE ok sh30 rfl ?_
  conv => whnf
  exact end_of [] (by rfl) (by rfl) (by rfl) (by exact ⟨rfl, rfl⟩)

set_option maxRecDepth 100000 in
theorem c_ans_75 : SpecD S 23 [.int .i64 75] [] (.int .i64 32) [] := by
  refine specE ok sh23 rfl ?_
  conv => whnf
  refine call_of [] (c_test_75) (by rfl) (by rfl) ?_
  conv => whnf
  exact end_of [] (by rfl) (by rfl) (by rfl) (by exact ⟨rfl, rfl⟩)

set_option maxRecDepth 100000 in
theorem c_types_75 : SpecD S 21 [.int .i64 75] [] (.tup [.int .i64 1, .int .i64 1, .int .i64 0]) [] := by
  refine specE ok sh21 rfl ?_
  conv => whnf
  refine call_of [] (f_75) (by rfl) (by rfl) ?_
  conv => whnf
  exact end_of [] (by rfl) (by rfl) (by rfl) (by exact ⟨rfl, rfl⟩)

set_option maxRecDepth 100000 in
theorem c_knows_75 : SpecD S 7 [.int .i64 75] [] (.bool true) [] := by
  have c1 := c_Name 75
  have c2 := c_refName 75
  rw [r_75] at c1 c2
  refine specE ok sh7 rfl ?_
  conv => whnf
  refine call_of [] (c_ary_gt_u 75 r_75) (by rfl) (by rfl) ?_
  conv => whnf
  refine call_of [] (c_rar_gt_u 75 r_75) (by rfl) (by rfl) ?_
  conv => whnf
  refine call_of [] (c1) (by rfl) (by rfl) ?_
  conv => whnf
  refine call_of [] (c2) (by rfl) (by rfl) ?_
  conv => whnf
  refine call_of [] (c_types_75) (by rfl) (by rfl) ?_
  conv => whnf
  refine call_of [] (c_bits_75) (by rfl) (by rfl) ?_
  conv => whnf
  refine ⟨by decide, ?_⟩
  conv => whnf
  refine call_of [] (c_ans_75) (by rfl) (by rfl) ?_
  conv => whnf
  refine ⟨by decide, ?_⟩
  conv => whnf
  exact end_of [] (by rfl) (by rfl) (by rfl) (by exact ⟨rfl, rfl⟩)

theorem r_76 : refL 76 = n_le_s := by kernel_rfl
theorem f_76 : F2 76 n_le_s false := by
  have := c_find 76
  rw [show findL 76 GS = (n_le_s, false) by kernel_rfl] at this
  exact this

set_option maxRecDepth 100000 in
theorem c_bits_76 : SpecD S 22 [.int .i64 76] [] (.int .i64 32) [] := by
  have c := c_refName 76
  rw [r_76] at c
  refine specE ok sh22 rfl ?_
  conv => whnf
  refine call_of [] (c) (by rfl) (by rfl) ?_
  conv => whnf
  exact end_of [] (by rfl) (by rfl) (by rfl) (by exact ⟨rfl, rfl⟩)

set_option maxRecDepth 100000 in
theorem c_test_76 : SpecD S 30 [.int .i64 76] [] (.bool true) [] := by
  refine specE ok sh30 rfl ?_
  conv => whnf
  exact end_of [] (by rfl) (by rfl) (by rfl) (by exact ⟨rfl, rfl⟩)

set_option maxRecDepth 100000 in
theorem c_ans_76 : SpecD S 23 [.int .i64 76] [] (.int .i64 32) [] := by
  refine specE ok sh23 rfl ?_
  conv => whnf
  refine call_of [] (c_test_76) (by rfl) (by rfl) ?_
  conv => whnf
  exact end_of [] (by rfl) (by rfl) (by rfl) (by exact ⟨rfl, rfl⟩)

set_option maxRecDepth 100000 in
theorem c_types_76 : SpecD S 21 [.int .i64 76] [] (.tup [.int .i64 1, .int .i64 1, .int .i64 0]) [] := by
  refine specE ok sh21 rfl ?_
  conv => whnf
  refine call_of [] (f_76) (by rfl) (by rfl) ?_
  conv => whnf
  exact end_of [] (by rfl) (by rfl) (by rfl) (by exact ⟨rfl, rfl⟩)

set_option maxRecDepth 100000 in
theorem c_knows_76 : SpecD S 7 [.int .i64 76] [] (.bool true) [] := by
  have c1 := c_Name 76
  have c2 := c_refName 76
  rw [r_76] at c1 c2
  refine specE ok sh7 rfl ?_
  conv => whnf
  refine call_of [] (c_ary_le_s 76 r_76) (by rfl) (by rfl) ?_
  conv => whnf
  refine call_of [] (c_rar_le_s 76 r_76) (by rfl) (by rfl) ?_
  conv => whnf
  refine call_of [] (c1) (by rfl) (by rfl) ?_
  conv => whnf
  refine call_of [] (c2) (by rfl) (by rfl) ?_
  conv => whnf
  refine call_of [] (c_types_76) (by rfl) (by rfl) ?_
  conv => whnf
  refine call_of [] (c_bits_76) (by rfl) (by rfl) ?_
  conv => whnf
  refine ⟨by decide, ?_⟩
  conv => whnf
  refine call_of [] (c_ans_76) (by rfl) (by rfl) ?_
  conv => whnf
  refine ⟨by decide, ?_⟩
  conv => whnf
  exact end_of [] (by rfl) (by rfl) (by rfl) (by exact ⟨rfl, rfl⟩)

theorem r_77 : refL 77 = n_le_u := by kernel_rfl
theorem f_77 : F2 77 n_le_u false := by
  have := c_find 77
  rw [show findL 77 GS = (n_le_u, false) by kernel_rfl] at this
  exact this

set_option maxRecDepth 100000 in
theorem c_bits_77 : SpecD S 22 [.int .i64 77] [] (.int .i64 32) [] := by
  have c := c_refName 77
  rw [r_77] at c
  refine specE ok sh22 rfl ?_
  conv => whnf
  refine call_of [] (c) (by rfl) (by rfl) ?_
  conv => whnf
  exact end_of [] (by rfl) (by rfl) (by rfl) (by exact ⟨rfl, rfl⟩)

set_option maxRecDepth 100000 in
theorem c_test_77 : SpecD S 30 [.int .i64 77] [] (.bool true) [] := by
  refine specE ok sh30 rfl ?_
  conv => whnf
  exact end_of [] (by rfl) (by rfl) (by rfl) (by exact ⟨rfl, rfl⟩)

set_option maxRecDepth 100000 in
theorem c_ans_77 : SpecD S 23 [.int .i64 77] [] (.int .i64 32) [] := by
  refine specE ok sh23 rfl ?_
  conv => whnf
  refine call_of [] (c_test_77) (by rfl) (by rfl) ?_
  conv => whnf
  exact end_of [] (by rfl) (by rfl) (by rfl) (by exact ⟨rfl, rfl⟩)

set_option maxRecDepth 100000 in
theorem c_types_77 : SpecD S 21 [.int .i64 77] [] (.tup [.int .i64 1, .int .i64 1, .int .i64 0]) [] := by
  refine specE ok sh21 rfl ?_
  conv => whnf
  refine call_of [] (f_77) (by rfl) (by rfl) ?_
  conv => whnf
  exact end_of [] (by rfl) (by rfl) (by rfl) (by exact ⟨rfl, rfl⟩)

set_option maxRecDepth 100000 in
theorem c_knows_77 : SpecD S 7 [.int .i64 77] [] (.bool true) [] := by
  have c1 := c_Name 77
  have c2 := c_refName 77
  rw [r_77] at c1 c2
  refine specE ok sh7 rfl ?_
  conv => whnf
  refine call_of [] (c_ary_le_u 77 r_77) (by rfl) (by rfl) ?_
  conv => whnf
  refine call_of [] (c_rar_le_u 77 r_77) (by rfl) (by rfl) ?_
  conv => whnf
  refine call_of [] (c1) (by rfl) (by rfl) ?_
  conv => whnf
  refine call_of [] (c2) (by rfl) (by rfl) ?_
  conv => whnf
  refine call_of [] (c_types_77) (by rfl) (by rfl) ?_
  conv => whnf
  refine call_of [] (c_bits_77) (by rfl) (by rfl) ?_
  conv => whnf
  refine ⟨by decide, ?_⟩
  conv => whnf
  refine call_of [] (c_ans_77) (by rfl) (by rfl) ?_
  conv => whnf
  refine ⟨by decide, ?_⟩
  conv => whnf
  exact end_of [] (by rfl) (by rfl) (by rfl) (by exact ⟨rfl, rfl⟩)

theorem r_78 : refL 78 = n_ge_s := by kernel_rfl
theorem f_78 : F2 78 n_ge_s false := by
  have := c_find 78
  rw [show findL 78 GS = (n_ge_s, false) by kernel_rfl] at this
  exact this

set_option maxRecDepth 100000 in
theorem c_bits_78 : SpecD S 22 [.int .i64 78] [] (.int .i64 32) [] := by
  have c := c_refName 78
  rw [r_78] at c
  refine specE ok sh22 rfl ?_
  conv => whnf
  refine call_of [] (c) (by rfl) (by rfl) ?_
  conv => whnf
  exact end_of [] (by rfl) (by rfl) (by rfl) (by exact ⟨rfl, rfl⟩)

set_option maxRecDepth 100000 in
theorem c_test_78 : SpecD S 30 [.int .i64 78] [] (.bool true) [] := by
  refine specE ok sh30 rfl ?_
  conv => whnf
  exact end_of [] (by rfl) (by rfl) (by rfl) (by exact ⟨rfl, rfl⟩)

set_option maxRecDepth 100000 in
theorem c_ans_78 : SpecD S 23 [.int .i64 78] [] (.int .i64 32) [] := by
  refine specE ok sh23 rfl ?_
  conv => whnf
  refine call_of [] (c_test_78) (by rfl) (by rfl) ?_
  conv => whnf
  exact end_of [] (by rfl) (by rfl) (by rfl) (by exact ⟨rfl, rfl⟩)

set_option maxRecDepth 100000 in
theorem c_types_78 : SpecD S 21 [.int .i64 78] [] (.tup [.int .i64 1, .int .i64 1, .int .i64 0]) [] := by
  refine specE ok sh21 rfl ?_
  conv => whnf
  refine call_of [] (f_78) (by rfl) (by rfl) ?_
  conv => whnf
  exact end_of [] (by rfl) (by rfl) (by rfl) (by exact ⟨rfl, rfl⟩)

set_option maxRecDepth 100000 in
theorem c_knows_78 : SpecD S 7 [.int .i64 78] [] (.bool true) [] := by
  have c1 := c_Name 78
  have c2 := c_refName 78
  rw [r_78] at c1 c2
  refine specE ok sh7 rfl ?_
  conv => whnf
  refine call_of [] (c_ary_ge_s 78 r_78) (by rfl) (by rfl) ?_
  conv => whnf
  refine call_of [] (c_rar_ge_s 78 r_78) (by rfl) (by rfl) ?_
  conv => whnf
  refine call_of [] (c1) (by rfl) (by rfl) ?_
  conv => whnf
  refine call_of [] (c2) (by rfl) (by rfl) ?_
  conv => whnf
  refine call_of [] (c_types_78) (by rfl) (by rfl) ?_
  conv => whnf
  refine call_of [] (c_bits_78) (by rfl) (by rfl) ?_
  conv => whnf
  refine ⟨by decide, ?_⟩
  conv => whnf
  refine call_of [] (c_ans_78) (by rfl) (by rfl) ?_
  conv => whnf
  refine ⟨by decide, ?_⟩
  conv => whnf
  exact end_of [] (by rfl) (by rfl) (by rfl) (by exact ⟨rfl, rfl⟩)

theorem r_79 : refL 79 = n_ge_u := by kernel_rfl
theorem f_79 : F2 79 n_ge_u false := by
  have := c_find 79
  rw [show findL 79 GS = (n_ge_u, false) by kernel_rfl] at this
  exact this

set_option maxRecDepth 100000 in
theorem c_bits_79 : SpecD S 22 [.int .i64 79] [] (.int .i64 32) [] := by
  have c := c_refName 79
  rw [r_79] at c
  refine specE ok sh22 rfl ?_
  conv => whnf
  refine call_of [] (c) (by rfl) (by rfl) ?_
  conv => whnf
  exact end_of [] (by rfl) (by rfl) (by rfl) (by exact ⟨rfl, rfl⟩)

set_option maxRecDepth 100000 in
theorem c_test_79 : SpecD S 30 [.int .i64 79] [] (.bool true) [] := by
  refine specE ok sh30 rfl ?_
  conv => whnf
  exact end_of [] (by rfl) (by rfl) (by rfl) (by exact ⟨rfl, rfl⟩)

set_option maxRecDepth 100000 in
theorem c_ans_79 : SpecD S 23 [.int .i64 79] [] (.int .i64 32) [] := by
  refine specE ok sh23 rfl ?_
  conv => whnf
  refine call_of [] (c_test_79) (by rfl) (by rfl) ?_
  conv => whnf
  exact end_of [] (by rfl) (by rfl) (by rfl) (by exact ⟨rfl, rfl⟩)

set_option maxRecDepth 100000 in
theorem c_types_79 : SpecD S 21 [.int .i64 79] [] (.tup [.int .i64 1, .int .i64 1, .int .i64 0]) [] := by
  refine specE ok sh21 rfl ?_
  conv => whnf
  refine call_of [] (f_79) (by rfl) (by rfl) ?_
  conv => whnf
  exact end_of [] (by rfl) (by rfl) (by rfl) (by exact ⟨rfl, rfl⟩)

set_option maxRecDepth 100000 in
theorem c_knows_79 : SpecD S 7 [.int .i64 79] [] (.bool true) [] := by
  have c1 := c_Name 79
  have c2 := c_refName 79
  rw [r_79] at c1 c2
  refine specE ok sh7 rfl ?_
  conv => whnf
  refine call_of [] (c_ary_ge_u 79 r_79) (by rfl) (by rfl) ?_
  conv => whnf
  refine call_of [] (c_rar_ge_u 79 r_79) (by rfl) (by rfl) ?_
  conv => whnf
  refine call_of [] (c1) (by rfl) (by rfl) ?_
  conv => whnf
  refine call_of [] (c2) (by rfl) (by rfl) ?_
  conv => whnf
  refine call_of [] (c_types_79) (by rfl) (by rfl) ?_
  conv => whnf
  refine call_of [] (c_bits_79) (by rfl) (by rfl) ?_
  conv => whnf
  refine ⟨by decide, ?_⟩
  conv => whnf
  refine call_of [] (c_ans_79) (by rfl) (by rfl) ?_
  conv => whnf
  refine ⟨by decide, ?_⟩
  conv => whnf
  exact end_of [] (by rfl) (by rfl) (by rfl) (by exact ⟨rfl, rfl⟩)

theorem r_80 : refL 80 = n_eqz := by kernel_rfl
theorem f_80 : F2 80 n_eqz true := by
  have := c_find 80
  rw [show findL 80 GS = (n_eqz, true) by kernel_rfl] at this
  exact this

set_option maxRecDepth 100000 in
theorem c_bits_80 : SpecD S 22 [.int .i64 80] [] (.int .i64 64) [] := by
  have c := c_refName 80
  rw [r_80] at c
  refine specE ok sh22 rfl ?_
  conv => whnf
  refine call_of [] (c) (by rfl) (by rfl) ?_
  conv => whnf
  exact end_of [] (by rfl) (by rfl) (by rfl) (by exact ⟨rfl, rfl⟩)

set_option maxRecDepth 100000 in
theorem c_test_80 : SpecD S 30 [.int .i64 80] [] (.bool true) [] := by
  refine specE ok sh30 rfl ?_
  conv => whnf
  exact end_of [] (by rfl) (by rfl) (by rfl) (by exact ⟨rfl, rfl⟩)

set_option maxRecDepth 100000 in
theorem c_ans_80 : SpecD S 23 [.int .i64 80] [] (.int .i64 32) [] := by
  refine specE ok sh23 rfl ?_
  conv => whnf
  refine call_of [] (c_test_80) (by rfl) (by rfl) ?_
  conv => whnf
  exact end_of [] (by rfl) (by rfl) (by rfl) (by exact ⟨rfl, rfl⟩)

set_option maxRecDepth 100000 in
theorem c_types_80 : SpecD S 21 [.int .i64 80] [] (.tup [.int .i64 2, .int .i64 1, .int .i64 0]) [] := by
  refine specE ok sh21 rfl ?_
  conv => whnf
  refine call_of [] (f_80) (by rfl) (by rfl) ?_
  conv => whnf
  exact end_of [] (by rfl) (by rfl) (by rfl) (by exact ⟨rfl, rfl⟩)

set_option maxRecDepth 100000 in
theorem c_knows_80 : SpecD S 7 [.int .i64 80] [] (.bool true) [] := by
  have c1 := c_Name 80
  have c2 := c_refName 80
  rw [r_80] at c1 c2
  refine specE ok sh7 rfl ?_
  conv => whnf
  refine call_of [] (c_ary_eqz 80 r_80) (by rfl) (by rfl) ?_
  conv => whnf
  refine call_of [] (c_rar_eqz 80 r_80) (by rfl) (by rfl) ?_
  conv => whnf
  refine call_of [] (c1) (by rfl) (by rfl) ?_
  conv => whnf
  refine call_of [] (c2) (by rfl) (by rfl) ?_
  conv => whnf
  refine call_of [] (c_types_80) (by rfl) (by rfl) ?_
  conv => whnf
  refine call_of [] (c_bits_80) (by rfl) (by rfl) ?_
  conv => whnf
  refine ⟨by decide, ?_⟩
  conv => whnf
  refine call_of [] (c_ans_80) (by rfl) (by rfl) ?_
  conv => whnf
  refine ⟨by decide, ?_⟩
  conv => whnf
  exact end_of [] (by rfl) (by rfl) (by rfl) (by exact ⟨rfl, rfl⟩)

theorem r_81 : refL 81 = n_eq := by kernel_rfl
theorem f_81 : F2 81 n_eq true := by
  have := c_find 81
  rw [show findL 81 GS = (n_eq, true) by kernel_rfl] at this
  exact this

set_option maxRecDepth 100000 in
theorem c_bits_81 : SpecD S 22 [.int .i64 81] [] (.int .i64 64) [] := by
  have c := c_refName 81
  rw [r_81] at c
  refine specE ok sh22 rfl ?_
  conv => whnf
  refine call_of [] (c) (by rfl) (by rfl) ?_
  conv => whnf
  exact end_of [] (by rfl) (by rfl) (by rfl) (by exact ⟨rfl, rfl⟩)

set_option maxRecDepth 100000 in
theorem c_test_81 : SpecD S 30 [.int .i64 81] [] (.bool true) [] := by
  refine specE ok sh30 rfl ?_
  conv => whnf
  exact end_of [] (by rfl) (by rfl) (by rfl) (by exact ⟨rfl, rfl⟩)

set_option maxRecDepth 100000 in
theorem c_ans_81 : SpecD S 23 [.int .i64 81] [] (.int .i64 32) [] := by
  refine specE ok sh23 rfl ?_
  conv => whnf
  refine call_of [] (c_test_81) (by rfl) (by rfl) ?_
  conv => whnf
  exact end_of [] (by rfl) (by rfl) (by rfl) (by exact ⟨rfl, rfl⟩)

set_option maxRecDepth 100000 in
theorem c_types_81 : SpecD S 21 [.int .i64 81] [] (.tup [.int .i64 2, .int .i64 1, .int .i64 0]) [] := by
  refine specE ok sh21 rfl ?_
  conv => whnf
  refine call_of [] (f_81) (by rfl) (by rfl) ?_
  conv => whnf
  exact end_of [] (by rfl) (by rfl) (by rfl) (by exact ⟨rfl, rfl⟩)

set_option maxRecDepth 100000 in
theorem c_knows_81 : SpecD S 7 [.int .i64 81] [] (.bool true) [] := by
  have c1 := c_Name 81
  have c2 := c_refName 81
  rw [r_81] at c1 c2
  refine specE ok sh7 rfl ?_
  conv => whnf
  refine call_of [] (c_ary_eq 81 r_81) (by rfl) (by rfl) ?_
  conv => whnf
  refine call_of [] (c_rar_eq 81 r_81) (by rfl) (by rfl) ?_
  conv => whnf
  refine call_of [] (c1) (by rfl) (by rfl) ?_
  conv => whnf
  refine call_of [] (c2) (by rfl) (by rfl) ?_
  conv => whnf
  refine call_of [] (c_types_81) (by rfl) (by rfl) ?_
  conv => whnf
  refine call_of [] (c_bits_81) (by rfl) (by rfl) ?_
  conv => whnf
  refine ⟨by decide, ?_⟩
  conv => whnf
  refine call_of [] (c_ans_81) (by rfl) (by rfl) ?_
  conv => whnf
  refine ⟨by decide, ?_⟩
  conv => whnf
  exact end_of [] (by rfl) (by rfl) (by rfl) (by exact ⟨rfl, rfl⟩)

theorem r_82 : refL 82 = n_ne := by kernel_rfl
theorem f_82 : F2 82 n_ne true := by
  have := c_find 82
  rw [show findL 82 GS = (n_ne, true) by kernel_rfl] at this
  exact this

set_option maxRecDepth 100000 in
theorem c_bits_82 : SpecD S 22 [.int .i64 82] [] (.int .i64 64) [] := by
  have c := c_refName 82
  rw [r_82] at c
  refine specE ok sh22 rfl ?_
  conv => whnf
  refine call_of [] (c) (by rfl) (by rfl) ?_
  conv => whnf
  exact end_of [] (by rfl) (by rfl) (by rfl) (by exact ⟨rfl, rfl⟩)

set_option maxRecDepth 100000 in
theorem c_test_82 : SpecD S 30 [.int .i64 82] [] (.bool true) [] := by
  refine specE ok sh30 rfl ?_
  conv => whnf
  exact end_of [] (by rfl) (by rfl) (by rfl) (by exact ⟨rfl, rfl⟩)

set_option maxRecDepth 100000 in
theorem c_ans_82 : SpecD S 23 [.int .i64 82] [] (.int .i64 32) [] := by
  refine specE ok sh23 rfl ?_
  conv => whnf
  refine call_of [] (c_test_82) (by rfl) (by rfl) ?_
  conv => whnf
  exact end_of [] (by rfl) (by rfl) (by rfl) (by exact ⟨rfl, rfl⟩)

set_option maxRecDepth 100000 in
theorem c_types_82 : SpecD S 21 [.int .i64 82] [] (.tup [.int .i64 2, .int .i64 1, .int .i64 0]) [] := by
  refine specE ok sh21 rfl ?_
  conv => whnf
  refine call_of [] (f_82) (by rfl) (by rfl) ?_
  conv => whnf
  exact end_of [] (by rfl) (by rfl) (by rfl) (by exact ⟨rfl, rfl⟩)

set_option maxRecDepth 100000 in
theorem c_knows_82 : SpecD S 7 [.int .i64 82] [] (.bool true) [] := by
  have c1 := c_Name 82
  have c2 := c_refName 82
  rw [r_82] at c1 c2
  refine specE ok sh7 rfl ?_
  conv => whnf
  refine call_of [] (c_ary_ne 82 r_82) (by rfl) (by rfl) ?_
  conv => whnf
  refine call_of [] (c_rar_ne 82 r_82) (by rfl) (by rfl) ?_
  conv => whnf
  refine call_of [] (c1) (by rfl) (by rfl) ?_
  conv => whnf
  refine call_of [] (c2) (by rfl) (by rfl) ?_
  conv => whnf
  refine call_of [] (c_types_82) (by rfl) (by rfl) ?_
  conv => whnf
  refine call_of [] (c_bits_82) (by rfl) (by rfl) ?_
  conv => whnf
  refine ⟨by decide, ?_⟩
  conv => whnf
  refine call_of [] (c_ans_82) (by rfl) (by rfl) ?_
  conv => whnf
  refine ⟨by decide, ?_⟩
  conv => whnf
  exact end_of [] (by rfl) (by rfl) (by rfl) (by exact ⟨rfl, rfl⟩)

theorem r_83 : refL 83 = n_lt_s := by kernel_rfl
theorem f_83 : F2 83 n_lt_s true := by
  have := c_find 83
  rw [show findL 83 GS = (n_lt_s, true) by kernel_rfl] at this
  exact this

set_option maxRecDepth 100000 in
theorem c_bits_83 : SpecD S 22 [.int .i64 83] [] (.int .i64 64) [] := by
  have c := c_refName 83
  rw [r_83] at c
  refine specE ok sh22 rfl ?_
  conv => whnf
  refine call_of [] (c) (by rfl) (by rfl) ?_
  conv => whnf
  exact end_of [] (by rfl) (by rfl) (by rfl) (by exact ⟨rfl, rfl⟩)

set_option maxRecDepth 100000 in
theorem c_test_83 : SpecD S 30 [.int .i64 83] [] (.bool true) [] := by
  refine specE ok sh30 rfl ?_
  conv => whnf
  exact end_of [] (by rfl) (by rfl) (by rfl) (by exact ⟨rfl, rfl⟩)

set_option maxRecDepth 100000 in
theorem c_ans_83 : SpecD S 23 [.int .i64 83] [] (.int .i64 32) [] := by
  refine specE ok sh23 rfl ?_
  conv => whnf
  refine call_of [] (c_test_83) (by rfl) (by rfl) ?_
  conv => whnf
  exact end_of [] (by rfl) (by rfl) (by rfl) (by exact ⟨rfl, rfl⟩)

set_option maxRecDepth 100000 in
theorem c_types_83 : SpecD S 21 [.int .i64 83] [] (.tup [.int .i64 2, .int .i64 1, .int .i64 0]) [] := by
  refine specE ok sh21 rfl ?_
  conv => whnf
  refine call_of [] (f_83) (by rfl) (by rfl) ?_
  conv => whnf
  exact end_of [] (by rfl) (by rfl) (by rfl) (by exact ⟨rfl, rfl⟩)

set_option maxRecDepth 100000 in
theorem c_knows_83 : SpecD S 7 [.int .i64 83] [] (.bool true) [] := by
  have c1 := c_Name 83
  have c2 := c_refName 83
  rw [r_83] at c1 c2
  refine specE ok sh7 rfl ?_
  conv => whnf
  refine call_of [] (c_ary_lt_s 83 r_83) (by rfl) (by rfl) ?_
  conv => whnf
  refine call_of [] (c_rar_lt_s 83 r_83) (by rfl) (by rfl) ?_
  conv => whnf
  refine call_of [] (c1) (by rfl) (by rfl) ?_
  conv => whnf
  refine call_of [] (c2) (by rfl) (by rfl) ?_
  conv => whnf
  refine call_of [] (c_types_83) (by rfl) (by rfl) ?_
  conv => whnf
  refine call_of [] (c_bits_83) (by rfl) (by rfl) ?_
  conv => whnf
  refine ⟨by decide, ?_⟩
  conv => whnf
  refine call_of [] (c_ans_83) (by rfl) (by rfl) ?_
  conv => whnf
  refine ⟨by decide, ?_⟩
  conv => whnf
  exact end_of [] (by rfl) (by rfl) (by rfl) (by exact ⟨rfl, rfl⟩)

theorem r_84 : refL 84 = n_lt_u := by kernel_rfl
theorem f_84 : F2 84 n_lt_u true := by
  have := c_find 84
  rw [show findL 84 GS = (n_lt_u, true) by kernel_rfl] at this
  exact this

set_option maxRecDepth 100000 in
theorem c_bits_84 : SpecD S 22 [.int .i64 84] [] (.int .i64 64) [] := by
  have c := c_refName 84
  rw [r_84] at c
  refine specE ok sh22 rfl ?_
  conv => whnf
  refine call_of [] (c) (by rfl) (by rfl) ?_
  conv => whnf
  exact end_of [] (by rfl) (by rfl) (by rfl) (by exact ⟨rfl, rfl⟩)

set_option maxRecDepth 100000 in
theorem c_test_84 : SpecD S 30 [.int .i64 84] [] (.bool true) [] := by
  refine specE ok sh30 rfl ?_
  conv => whnf
  exact end_of [] (by rfl) (by rfl) (by rfl) (by exact ⟨rfl, rfl⟩)

set_option maxRecDepth 100000 in
theorem c_ans_84 : SpecD S 23 [.int .i64 84] [] (.int .i64 32) [] := by
  refine specE ok sh23 rfl ?_
  conv => whnf
  refine call_of [] (c_test_84) (by rfl) (by rfl) ?_
  conv => whnf
  exact end_of [] (by rfl) (by rfl) (by rfl) (by exact ⟨rfl, rfl⟩)

set_option maxRecDepth 100000 in
theorem c_types_84 : SpecD S 21 [.int .i64 84] [] (.tup [.int .i64 2, .int .i64 1, .int .i64 0]) [] := by
  refine specE ok sh21 rfl ?_
  conv => whnf
  refine call_of [] (f_84) (by rfl) (by rfl) ?_
  conv => whnf
  exact end_of [] (by rfl) (by rfl) (by rfl) (by exact ⟨rfl, rfl⟩)

set_option maxRecDepth 100000 in
theorem c_knows_84 : SpecD S 7 [.int .i64 84] [] (.bool true) [] := by
  have c1 := c_Name 84
  have c2 := c_refName 84
  rw [r_84] at c1 c2
  refine specE ok sh7 rfl ?_
  conv => whnf
  refine call_of [] (c_ary_lt_u 84 r_84) (by rfl) (by rfl) ?_
  conv => whnf
  refine call_of [] (c_rar_lt_u 84 r_84) (by rfl) (by rfl) ?_
  conv => whnf
  refine call_of [] (c1) (by rfl) (by rfl) ?_
  conv => whnf
  refine call_of [] (c2) (by rfl) (by rfl) ?_
  conv => whnf
  refine call_of [] (c_types_84) (by rfl) (by rfl) ?_
  conv => whnf
  refine call_of [] (c_bits_84) (by rfl) (by rfl) ?_
  conv => whnf
  refine ⟨by decide, ?_⟩
  conv => whnf
  refine call_of [] (c_ans_84) (by rfl) (by rfl) ?_
  conv => whnf
  refine ⟨by decide, ?_⟩
  conv => whnf
  exact end_of [] (by rfl) (by rfl) (by rfl) (by exact ⟨rfl, rfl⟩)

theorem r_85 : refL 85 = n_gt_s := by kernel_rfl
theorem f_85 : F2 85 n_gt_s true := by
  have := c_find 85
  rw [show findL 85 GS = (n_gt_s, true) by kernel_rfl] at this
  exact this

set_option maxRecDepth 100000 in
theorem c_bits_85 : SpecD S 22 [.int .i64 85] [] (.int .i64 64) [] := by
  have c := c_refName 85
  rw [r_85] at c
  refine specE ok sh22 rfl ?_
  conv => whnf
  refine call_of [] (c) (by rfl) (by rfl) ?_
  conv => whnf
  exact end_of [] (by rfl) (by rfl) (by rfl) (by exact ⟨rfl, rfl⟩)

set_option maxRecDepth 100000 in
theorem c_test_85 : SpecD S 30 [.int .i64 85] [] (.bool true) [] := by
  refine specE ok sh30 rfl ?_
  conv => whnf
  exact end_of [] (by rfl) (by rfl) (by rfl) (by exact ⟨rfl, rfl⟩)

set_option maxRecDepth 100000 in
theorem c_ans_85 : SpecD S 23 [.int .i64 85] [] (.int .i64 32) [] := by
  refine specE ok sh23 rfl ?_
  conv => whnf
  refine call_of [] (c_test_85) (by rfl) (by rfl) ?_
  conv => whnf
  exact end_of [] (by rfl) (by rfl) (by rfl) (by exact ⟨rfl, rfl⟩)

set_option maxRecDepth 100000 in
theorem c_types_85 : SpecD S 21 [.int .i64 85] [] (.tup [.int .i64 2, .int .i64 1, .int .i64 0]) [] := by
  refine specE ok sh21 rfl ?_
  conv => whnf
  refine call_of [] (f_85) (by rfl) (by rfl) ?_
  conv => whnf
  exact end_of [] (by rfl) (by rfl) (by rfl) (by exact ⟨rfl, rfl⟩)

set_option maxRecDepth 100000 in
theorem c_knows_85 : SpecD S 7 [.int .i64 85] [] (.bool true) [] := by
  have c1 := c_Name 85
  have c2 := c_refName 85
  rw [r_85] at c1 c2
  refine specE ok sh7 rfl ?_
  conv => whnf
  refine call_of [] (c_ary_gt_s 85 r_85) (by rfl) (by rfl) ?_
  conv => whnf
  refine call_of [] (c_rar_gt_s 85 r_85) (by rfl) (by rfl) ?_
  conv => whnf
  refine call_of [] (c1) (by rfl) (by rfl) ?_
  conv => whnf
  refine call_of [] (c2) (by rfl) (by rfl) ?_
  conv => whnf
  refine call_of [] (c_types_85) (by rfl) (by rfl) ?_
  conv => whnf
  refine call_of [] (c_bits_85) (by rfl) (by rfl) ?_
  conv => whnf
  refine ⟨by decide, ?_⟩
  conv => whnf
  refine call_of [] (c_ans_85) (by rfl) (by rfl) ?_
  conv => whnf
  refine ⟨by decide, ?_⟩
  conv => whnf
  exact end_of [] (by rfl) (by rfl) (by rfl) (by exact ⟨rfl, rfl⟩)

theorem r_86 : refL 86 = n_gt_u := by kernel_rfl
theorem f_86 : F2 86 n_gt_u true := by
  have := c_find 86
  rw [show findL 86 GS = (n_gt_u, true) by kernel_rfl] at this
  exact this

set_option maxRecDepth 100000 in
theorem c_bits_86 : SpecD S 22 [.int .i64 86] [] (.int .i64 64) [] := by
  have c := c_refName 86
  rw [r_86] at c
  refine specE ok sh22 rfl ?_
  conv => whnf
  refine call_of [] (c) (by rfl) (by rfl) ?_
  conv => whnf
  exact end_of [] (by rfl) (by rfl) (by rfl) (by exact ⟨rfl, rfl⟩)

set_option maxRecDepth 100000 in
theorem c_test_86 : SpecD S 30 [.int .i64 86] [] (.bool true) [] := by
  refine specE ok sh30 rfl ?_
  conv => whnf
  exact end_of [] (by rfl) (by rfl) (by rfl) (by exact ⟨rfl, rfl⟩)

set_option maxRecDepth 100000 in
theorem c_ans_86 : SpecD S 23 [.int .i64 86] [] (.int .i64 32) [] := by
  refine specE ok sh23 rfl ?_
  conv => whnf
  refine call_of [] (c_test_86) (by rfl) (by rfl) ?_
  conv => whnf
  exact end_of [] (by rfl) (by rfl) (by rfl) (by exact ⟨rfl, rfl⟩)

set_option maxRecDepth 100000 in
theorem c_types_86 : SpecD S 21 [.int .i64 86] [] (.tup [.int .i64 2, .int .i64 1, .int .i64 0]) [] := by
  refine specE ok sh21 rfl ?_
  conv => whnf
  refine call_of [] (f_86) (by rfl) (by rfl) ?_
  conv => whnf
  exact end_of [] (by rfl) (by rfl) (by rfl) (by exact ⟨rfl, rfl⟩)

set_option maxRecDepth 100000 in
theorem c_knows_86 : SpecD S 7 [.int .i64 86] [] (.bool true) [] := by
  have c1 := c_Name 86
  have c2 := c_refName 86
  rw [r_86] at c1 c2
  refine specE ok sh7 rfl ?_
  conv => whnf
  refine call_of [] (c_ary_gt_u 86 r_86) (by rfl) (by rfl) ?_
  conv => whnf
  refine call_of [] (c_rar_gt_u 86 r_86) (by rfl) (by rfl) ?_
  conv => whnf
  refine call_of [] (c1) (by rfl) (by rfl) ?_
  conv => whnf
  refine call_of [] (c2) (by rfl) (by rfl) ?_
  conv => whnf
  refine call_of [] (c_types_86) (by rfl) (by rfl) ?_
  conv => whnf
  refine call_of [] (c_bits_86) (by rfl) (by rfl) ?_
  conv => whnf
  refine ⟨by decide, ?_⟩
  conv => whnf
  refine call_of [] (c_ans_86) (by rfl) (by rfl) ?_
  conv => whnf
  refine ⟨by decide, ?_⟩
  conv => whnf
  exact end_of [] (by rfl) (by rfl) (by rfl) (by exact ⟨rfl, rfl⟩)

theorem r_87 : refL 87 = n_le_s := by kernel_rfl
theorem f_87 : F2 87 n_le_s true := by
  have := c_find 87
  rw [show findL 87 GS = (n_le_s, true) by kernel_rfl] at this
  exact this

set_option maxRecDepth 100000 in
theorem c_bits_87 : SpecD S 22 [.int .i64 87] [] (.int .i64 64) [] := by
  have c := c_refName 87
  rw [r_87] at c
  refine specE ok sh22 rfl ?_
  conv => whnf
  refine call_of [] (c) (by rfl) (by rfl) ?_
  conv => whnf
  exact end_of [] (by rfl) (by rfl) (by rfl) (by exact ⟨rfl, rfl⟩)

set_option maxRecDepth 100000 in
theorem c_test_87 : SpecD S 30 [.int .i64 87] [] (.bool true) [] := by
  refine specE ok sh30 rfl ?_
  conv => whnf
  exact end_of [] (by rfl) (by rfl) (by rfl) (by exact ⟨rfl, rfl⟩)

set_option maxRecDepth 100000 in
theorem c_ans_87 : SpecD S 23 [.int .i64 87] [] (.int .i64 32) [] := by
  refine specE ok sh23 rfl ?_
  conv => whnf
  refine call_of [] (c_test_87) (by rfl) (by rfl) ?_
  conv => whnf
  exact end_of [] (by rfl) (by rfl) (by rfl) (by exact ⟨rfl, rfl⟩)

set_option maxRecDepth 100000 in
theorem c_types_87 : SpecD S 21 [.int .i64 87] [] (.tup [.int .i64 2, .int .i64 1, .int .i64 0]) [] := by
  refine specE ok sh21 rfl ?_
  conv => whnf
  refine call_of [] (f_87) (by rfl) (by rfl) ?_
  conv => whnf
  exact end_of [] (by rfl) (by rfl) (by rfl) (by exact ⟨rfl, rfl⟩)

set_option maxRecDepth 100000 in
theorem c_knows_87 : SpecD S 7 [.int .i64 87] [] (.bool true) [] := by
  have c1 := c_Name 87
  have c2 := c_refName 87
  rw [r_87] at c1 c2
  refine specE ok sh7 rfl ?_
  conv => whnf
  refine call_of [] (c_ary_le_s 87 r_87) (by rfl) (by rfl) ?_
  conv => whnf
  refine call_of [] (c_rar_le_s 87 r_87) (by rfl) (by rfl) ?_
  conv => whnf
  refine call_of [] (c1) (by rfl) (by rfl) ?_
  conv => whnf
  refine call_of [] (c2) (by rfl) (by rfl) ?_
  conv => whnf
  refine call_of [] (c_types_87) (by rfl) (by rfl) ?_
  conv => whnf
  refine call_of [] (c_bits_87) (by rfl) (by rfl) ?_
  conv => whnf
  refine ⟨by decide, ?_⟩
  conv => whnf
  refine call_of [] (c_ans_87) (by rfl) (by rfl) ?_
  conv => whnf
  refine ⟨by decide, ?_⟩
  conv => whnf
  exact end_of [] (by rfl) (by rfl) (by rfl) (by exact ⟨rfl, rfl⟩)

theorem r_88 : refL 88 = n_le_u := by kernel_rfl
theorem f_88 : F2 88 n_le_u true := by
  have := c_find 88
  rw [show findL 88 GS = (n_le_u, true) by kernel_rfl] at this
  exact this

set_option maxRecDepth 100000 in
theorem c_bits_88 : SpecD S 22 [.int .i64 88] [] (.int .i64 64) [] := by
  have c := c_refName 88
  rw [r_88] at c
  refine specE ok sh22 rfl ?_
  conv => whnf
  refine call_of [] (c) (by rfl) (by rfl) ?_
  conv => whnf
  exact end_of [] (by rfl) (by rfl) (by rfl) (by exact ⟨rfl, rfl⟩)

set_option maxRecDepth 100000 in
theorem c_test_88 : SpecD S 30 [.int .i64 88] [] (.bool true) [] := by
  refine specE ok sh30 rfl ?_
  conv => whnf
  exact end_of [] (by rfl) (by rfl) (by rfl) (by exact ⟨rfl, rfl⟩)

set_option maxRecDepth 100000 in
theorem c_ans_88 : SpecD S 23 [.int .i64 88] [] (.int .i64 32) [] := by
  refine specE ok sh23 rfl ?_
  conv => whnf
  refine call_of [] (c_test_88) (by rfl) (by rfl) ?_
  conv => whnf
  exact end_of [] (by rfl) (by rfl) (by rfl) (by exact ⟨rfl, rfl⟩)

set_option maxRecDepth 100000 in
theorem c_types_88 : SpecD S 21 [.int .i64 88] [] (.tup [.int .i64 2, .int .i64 1, .int .i64 0]) [] := by
  refine specE ok sh21 rfl ?_
  conv => whnf
  refine call_of [] (f_88) (by rfl) (by rfl) ?_
  conv => whnf
  exact end_of [] (by rfl) (by rfl) (by rfl) (by exact ⟨rfl, rfl⟩)

set_option maxRecDepth 100000 in
theorem c_knows_88 : SpecD S 7 [.int .i64 88] [] (.bool true) [] := by
  have c1 := c_Name 88
  have c2 := c_refName 88
  rw [r_88] at c1 c2
  refine specE ok sh7 rfl ?_
  conv => whnf
  refine call_of [] (c_ary_le_u 88 r_88) (by rfl) (by rfl) ?_
  conv => whnf
  refine call_of [] (c_rar_le_u 88 r_88) (by rfl) (by rfl) ?_
  conv => whnf
  refine call_of [] (c1) (by rfl) (by rfl) ?_
  conv => whnf
  refine call_of [] (c2) (by rfl) (by rfl) ?_
  conv => whnf
  refine call_of [] (c_types_88) (by rfl) (by rfl) ?_
  conv => whnf
  refine call_of [] (c_bits_88) (by rfl) (by rfl) ?_
  conv => whnf
  refine ⟨by decide, ?_⟩
  conv => whnf
  refine call_of [] (c_ans_88) (by rfl) (by rfl) ?_
  conv => whnf
  refine ⟨by decide, ?_⟩
  conv => whnf
  exact end_of [] (by rfl) (by rfl) (by rfl) (by exact ⟨rfl, rfl⟩)

theorem r_89 : refL 89 = n_ge_s := by kernel_rfl
theorem f_89 : F2 89 n_ge_s true := by
  have := c_find 89
  rw [show findL 89 GS = (n_ge_s, true) by kernel_rfl] at this
  exact this

set_option maxRecDepth 100000 in
theorem c_bits_89 : SpecD S 22 [.int .i64 89] [] (.int .i64 64) [] := by
  have c := c_refName 89
  rw [r_89] at c
  refine specE ok sh22 rfl ?_
  conv => whnf
  refine call_of [] (c) (by rfl) (by rfl) ?_
  conv => whnf
  exact end_of [] (by rfl) (by rfl) (by rfl) (by exact ⟨rfl, rfl⟩)

set_option maxRecDepth 100000 in
theorem c_test_89 : SpecD S 30 [.int .i64 89] [] (.bool true) [] := by
  refine specE ok sh30 rfl ?_
  conv => whnf
  exact end_of [] (by rfl) (by rfl) (by rfl) (by exact ⟨rfl, rfl⟩)

set_option maxRecDepth 100000 in
theorem c_ans_89 : SpecD S 23 [.int .i64 89] [] (.int .i64 32) [] := by
  refine specE ok sh23 rfl ?_
  conv => whnf
  refine call_of [] (c_test_89) (by rfl) (by rfl) ?_
  conv => whnf
  exact end_of [] (by rfl) (by rfl) (by rfl) (by exact ⟨rfl, rfl⟩)

set_option maxRecDepth 100000 in
theorem c_types_89 : SpecD S 21 [.int .i64 89] [] (.tup [.int .i64 2, .int .i64 1, .int .i64 0]) [] := by
  refine specE ok sh21 rfl ?_
  conv => whnf
  refine call_of [] (f_89) (by rfl) (by rfl) ?_
  conv => whnf
  exact end_of [] (by rfl) (by rfl) (by rfl) (by exact ⟨rfl, rfl⟩)

set_option maxRecDepth 100000 in
theorem c_knows_89 : SpecD S 7 [.int .i64 89] [] (.bool true) [] := by
  have c1 := c_Name 89
  have c2 := c_refName 89
  rw [r_89] at c1 c2
  refine specE ok sh7 rfl ?_
  conv => whnf
  refine call_of [] (c_ary_ge_s 89 r_89) (by rfl) (by rfl) ?_
  conv => whnf
  refine call_of [] (c_rar_ge_s 89 r_89) (by rfl) (by rfl) ?_
  conv => whnf
  refine call_of [] (c1) (by rfl) (by rfl) ?_
  conv => whnf
  refine call_of [] (c2) (by rfl) (by rfl) ?_
  conv => whnf
  refine call_of [] (c_types_89) (by rfl) (by rfl) ?_
  conv => whnf
  refine call_of [] (c_bits_89) (by rfl) (by rfl) ?_
  conv => whnf
  refine ⟨by decide, ?_⟩
  conv => whnf
  refine call_of [] (c_ans_89) (by rfl) (by rfl) ?_
  conv => whnf
  refine ⟨by decide, ?_⟩
  conv => whnf
  exact end_of [] (by rfl) (by rfl) (by rfl) (by exact ⟨rfl, rfl⟩)

theorem r_90 : refL 90 = n_ge_u := by kernel_rfl
theorem f_90 : F2 90 n_ge_u true := by
  have := c_find 90
  rw [show findL 90 GS = (n_ge_u, true) by kernel_rfl] at this
  exact this

set_option maxRecDepth 100000 in
theorem c_bits_90 : SpecD S 22 [.int .i64 90] [] (.int .i64 64) [] := by
  have c := c_refName 90
  rw [r_90] at c
  refine specE ok sh22 rfl ?_
  conv => whnf
  refine call_of [] (c) (by rfl) (by rfl) ?_
  conv => whnf
  exact end_of [] (by rfl) (by rfl) (by rfl) (by exact ⟨rfl, rfl⟩)

set_option maxRecDepth 100000 in
theorem c_test_90 : SpecD S 30 [.int .i64 90] [] (.bool true) [] := by
  refine specE ok sh30 rfl ?_
  conv => whnf
  exact end_of [] (by rfl) (by rfl) (by rfl) (by exact ⟨rfl, rfl⟩)

set_option maxRecDepth 100000 in
theorem c_ans_90 : SpecD S 23 [.int .i64 90] [] (.int .i64 32) [] := by
  refine specE ok sh23 rfl ?_
  conv => whnf
  refine call_of [] (c_test_90) (by rfl) (by rfl) ?_
  conv => whnf
  exact end_of [] (by rfl) (by rfl) (by rfl) (by exact ⟨rfl, rfl⟩)

set_option maxRecDepth 100000 in
theorem c_types_90 : SpecD S 21 [.int .i64 90] [] (.tup [.int .i64 2, .int .i64 1, .int .i64 0]) [] := by
  refine specE ok sh21 rfl ?_
  conv => whnf
  refine call_of [] (f_90) (by rfl) (by rfl) ?_
  conv => whnf
  exact end_of [] (by rfl) (by rfl) (by rfl) (by exact ⟨rfl, rfl⟩)

set_option maxRecDepth 100000 in
theorem c_knows_90 : SpecD S 7 [.int .i64 90] [] (.bool true) [] := by
  have c1 := c_Name 90
  have c2 := c_refName 90
  rw [r_90] at c1 c2
  refine specE ok sh7 rfl ?_
  conv => whnf
  refine call_of [] (c_ary_ge_u 90 r_90) (by rfl) (by rfl) ?_
  conv => whnf
  refine call_of [] (c_rar_ge_u 90 r_90) (by rfl) (by rfl) ?_
  conv => whnf
  refine call_of [] (c1) (by rfl) (by rfl) ?_
  conv => whnf
  refine call_of [] (c2) (by rfl) (by rfl) ?_
  conv => whnf
  refine call_of [] (c_types_90) (by rfl) (by rfl) ?_
  conv => whnf
  refine call_of [] (c_bits_90) (by rfl) (by rfl) ?_
  conv => whnf
  refine ⟨by decide, ?_⟩
  conv => whnf
  refine call_of [] (c_ans_90) (by rfl) (by rfl) ?_
  conv => whnf
  refine ⟨by decide, ?_⟩
  conv => whnf
  exact end_of [] (by rfl) (by rfl) (by rfl) (by exact ⟨rfl, rfl⟩)

theorem r_103 : refL 103 = n_clz := by kernel_rfl
theorem f_103 : F2 103 n_clz false := by
  have := c_find 103
  rw [show findL 103 GS = (n_clz, false) by kernel_rfl] at this
  exact this

set_option maxRecDepth 100000 in
theorem c_bits_103 : SpecD S 22 [.int .i64 103] [] (.int .i64 32) [] := by
  have c := c_refName 103
  rw [r_103] at c
  refine specE ok sh22 rfl ?_
  conv => whnf
  refine call_of [] (c) (by rfl) (by rfl) ?_
  conv => whnf
  exact end_of [] (by rfl) (by rfl) (by rfl) (by exact ⟨rfl, rfl⟩)

set_option maxRecDepth 100000 in
theorem c_test_103 : SpecD S 30 [.int .i64 103] [] (.bool false) [] := by
  refine specE ok sh30 rfl ?_
  conv => whnf
  exact end_of [] (by rfl) (by rfl) (by rfl) (by exact ⟨rfl, rfl⟩)

set_option maxRecDepth 100000 in
theorem c_ans_103 : SpecD S 23 [.int .i64 103] [] (.int .i64 32) [] := by
  refine specE ok sh23 rfl ?_
  conv => whnf
  refine call_of [] (c_test_103) (by rfl) (by rfl) ?_
  conv => whnf
  refine call_of [] (c_bits_103) (by rfl) (by rfl) ?_
  conv => whnf
  exact end_of [] (by rfl) (by rfl) (by rfl) (by exact ⟨rfl, rfl⟩)

set_option maxRecDepth 100000 in
theorem c_types_103 : SpecD S 21 [.int .i64 103] [] (.tup [.int .i64 1, .int .i64 1, .int .i64 0]) [] := by
  refine specE ok sh21 rfl ?_
  conv => whnf
  refine call_of [] (f_103) (by rfl) (by rfl) ?_
  conv => whnf
  exact end_of [] (by rfl) (by rfl) (by rfl) (by exact ⟨rfl, rfl⟩)

set_option maxRecDepth 100000 in
theorem c_knows_103 : SpecD S 7 [.int .i64 103] [] (.bool true) [] := by
  have c1 := c_Name 103
  have c2 := c_refName 103
  rw [r_103] at c1 c2
  refine specE ok sh7 rfl ?_
  conv => whnf
  refine call_of [] (c_ary_clz 103 r_103) (by rfl) (by rfl) ?_
  conv => whnf
  refine call_of [] (c_rar_clz 103 r_103) (by rfl) (by rfl) ?_
  conv => whnf
  refine call_of [] (c1) (by rfl) (by rfl) ?_
  conv => whnf
  refine call_of [] (c2) (by rfl) (by rfl) ?_
  conv => whnf
  refine call_of [] (c_types_103) (by rfl) (by rfl) ?_
  conv => whnf
  refine call_of [] (c_bits_103) (by rfl) (by rfl) ?_
  conv => whnf
  refine ⟨by decide, ?_⟩
  conv => whnf
  refine call_of [] (c_ans_103) (by rfl) (by rfl) ?_
  conv => whnf
  refine ⟨by decide, ?_⟩
  conv => whnf
  exact end_of [] (by rfl) (by rfl) (by rfl) (by exact ⟨rfl, rfl⟩)

theorem r_104 : refL 104 = n_ctz := by kernel_rfl
theorem f_104 : F2 104 n_ctz false := by
  have := c_find 104
  rw [show findL 104 GS = (n_ctz, false) by kernel_rfl] at this
  exact this

set_option maxRecDepth 100000 in
theorem c_bits_104 : SpecD S 22 [.int .i64 104] [] (.int .i64 32) [] := by
  have c := c_refName 104
  rw [r_104] at c
  refine specE ok sh22 rfl ?_
  conv => whnf
  refine call_of [] (c) (by rfl) (by rfl) ?_
  conv => whnf
  exact end_of [] (by rfl) (by rfl) (by rfl) (by exact ⟨rfl, rfl⟩)

set_option maxRecDepth 100000 in
theorem c_test_104 : SpecD S 30 [.int .i64 104] [] (.bool false) [] := by
  refine specE ok sh30 rfl ?_
  conv => whnf
  exact end_of [] (by rfl) (by rfl) (by rfl) (by exact ⟨rfl, rfl⟩)

set_option maxRecDepth 100000 in
theorem c_ans_104 : SpecD S 23 [.int .i64 104] [] (.int .i64 32) [] := by
  refine specE ok sh23 rfl ?_
  conv => whnf
  refine call_of [] (c_test_104) (by rfl) (by rfl) ?_
  conv => whnf
  refine call_of [] (c_bits_104) (by rfl) (by rfl) ?_
  conv => whnf
  exact end_of [] (by rfl) (by rfl) (by rfl) (by exact ⟨rfl, rfl⟩)

set_option maxRecDepth 100000 in
theorem c_types_104 : SpecD S 21 [.int .i64 104] [] (.tup [.int .i64 1, .int .i64 1, .int .i64 0]) [] := by
  refine specE ok sh21 rfl ?_
  conv => whnf
  refine call_of [] (f_104) (by rfl) (by rfl) ?_
  conv => whnf
  exact end_of [] (by rfl) (by rfl) (by rfl) (by exact ⟨rfl, rfl⟩)

set_option maxRecDepth 100000 in
theorem c_knows_104 : SpecD S 7 [.int .i64 104] [] (.bool true) [] := by
  have c1 := c_Name 104
  have c2 := c_refName 104
  rw [r_104] at c1 c2
  refine specE ok sh7 rfl ?_
  conv => whnf
  refine call_of [] (c_ary_ctz 104 r_104) (by rfl) (by rfl) ?_
  conv => whnf
  refine call_of [] (c_rar_ctz 104 r_104) (by rfl) (by rfl) ?_
  conv => whnf
  refine call_of [] (c1) (by rfl) (by rfl) ?_
  conv => whnf
  refine call_of [] (c2) (by rfl) (by rfl) ?_
  conv => whnf
  refine call_of [] (c_types_104) (by rfl) (by rfl) ?_
  conv => whnf
  refine call_of [] (c_bits_104) (by rfl) (by rfl) ?_
  conv => whnf
  refine ⟨by decide, ?_⟩
  conv => whnf
  refine call_of [] (c_ans_104) (by rfl) (by rfl) ?_
  conv => whnf
  refine ⟨by decide, ?_⟩
  conv => whnf
  exact end_of [] (by rfl) (by rfl) (by rfl) (by exact ⟨rfl, rfl⟩)

theorem r_105 : refL 105 = n_popcnt := by kernel_rfl
theorem f_105 : F2 105 n_popcnt false := by
  have := c_find 105
  rw [show findL 105 GS = (n_popcnt, false) by kernel_rfl] at this
  exact this

set_option maxRecDepth 100000 in
theorem c_bits_105 : SpecD S 22 [.int .i64 105] [] (.int .i64 32) [] := by
  have c := c_refName 105
  rw [r_105] at c
  refine specE ok sh22 rfl ?_
  conv => whnf
  refine call_of [] (c) (by rfl) (by rfl) ?_
  conv => whnf
  exact end_of [] (by rfl) (by rfl) (by rfl) (by exact ⟨rfl, rfl⟩)

set_option maxRecDepth 100000 in
theorem c_test_105 : SpecD S 30 [.int .i64 105] [] (.bool false) [] := by
  refine specE ok sh30 rfl ?_
  conv => whnf
  exact end_of [] (by rfl) (by rfl) (by rfl) (by exact ⟨rfl, rfl⟩)

set_option maxRecDepth 100000 in
theorem c_ans_105 : SpecD S 23 [.int .i64 105] [] (.int .i64 32) [] := by
  refine specE ok sh23 rfl ?_
  conv => whnf
  refine call_of [] (c_test_105) (by rfl) (by rfl) ?_
  conv => whnf
  refine call_of [] (c_bits_105) (by rfl) (by rfl) ?_
  conv => whnf
  exact end_of [] (by rfl) (by rfl) (by rfl) (by exact ⟨rfl, rfl⟩)

set_option maxRecDepth 100000 in
theorem c_types_105 : SpecD S 21 [.int .i64 105] [] (.tup [.int .i64 1, .int .i64 1, .int .i64 0]) [] := by
  refine specE ok sh21 rfl ?_
  conv => whnf
  refine call_of [] (f_105) (by rfl) (by rfl) ?_
  conv => whnf
  exact end_of [] (by rfl) (by rfl) (by rfl) (by exact ⟨rfl, rfl⟩)

set_option maxRecDepth 100000 in
theorem c_knows_105 : SpecD S 7 [.int .i64 105] [] (.bool true) [] := by
  have c1 := c_Name 105
  have c2 := c_refName 105
  rw [r_105] at c1 c2
  refine specE ok sh7 rfl ?_
  conv => whnf
  refine call_of [] (c_ary_popcnt 105 r_105) (by rfl) (by rfl) ?_
  conv => whnf
  refine call_of [] (c_rar_popcnt 105 r_105) (by rfl) (by rfl) ?_
  conv => whnf
  refine call_of [] (c1) (by rfl) (by rfl) ?_
  conv => whnf
  refine call_of [] (c2) (by rfl) (by rfl) ?_
  conv => whnf
  refine call_of [] (c_types_105) (by rfl) (by rfl) ?_
  conv => whnf
  refine call_of [] (c_bits_105) (by rfl) (by rfl) ?_
  conv => whnf
  refine ⟨by decide, ?_⟩
  conv => whnf
  refine call_of [] (c_ans_105) (by rfl) (by rfl) ?_
  conv => whnf
  refine ⟨by decide, ?_⟩
  conv => whnf
  exact end_of [] (by rfl) (by rfl) (by rfl) (by exact ⟨rfl, rfl⟩)

theorem r_106 : refL 106 = n_add := by kernel_rfl
theorem f_106 : F2 106 n_add false := by
  have := c_find 106
  rw [show findL 106 GS = (n_add, false) by kernel_rfl] at this
  exact this

set_option maxRecDepth 100000 in
theorem c_bits_106 : SpecD S 22 [.int .i64 106] [] (.int .i64 32) [] := by
  have c := c_refName 106
  rw [r_106] at c
  refine specE ok sh22 rfl ?_
  conv => whnf
  refine call_of [] (c) (by rfl) (by rfl) ?_
  conv => whnf
  exact end_of [] (by rfl) (by rfl) (by rfl) (by exact ⟨rfl, rfl⟩)

set_option maxRecDepth 100000 in
theorem c_test_106 : SpecD S 30 [.int .i64 106] [] (.bool false) [] := by
  refine specE ok sh30 rfl ?_
  conv => whnf
  exact end_of [] (by rfl) (by rfl) (by rfl) (by exact ⟨rfl, rfl⟩)

set_option maxRecDepth 100000 in
theorem c_ans_106 : SpecD S 23 [.int .i64 106] [] (.int .i64 32) [] := by
  refine specE ok sh23 rfl ?_
  conv => whnf
  refine call_of [] (c_test_106) (by rfl) (by rfl) ?_
  conv => whnf
  refine call_of [] (c_bits_106) (by rfl) (by rfl) ?_
  conv => whnf
  exact end_of [] (by rfl) (by rfl) (by rfl) (by exact ⟨rfl, rfl⟩)

set_option maxRecDepth 100000 in
theorem c_types_106 : SpecD S 21 [.int .i64 106] [] (.tup [.int .i64 1, .int .i64 1, .int .i64 0]) [] := by
  refine specE ok sh21 rfl ?_
  conv => whnf
  refine call_of [] (f_106) (by rfl) (by rfl) ?_
  conv => whnf
  exact end_of [] (by rfl) (by rfl) (by rfl) (by exact ⟨rfl, rfl⟩)

set_option maxRecDepth 100000 in
theorem c_knows_106 : SpecD S 7 [.int .i64 106] [] (.bool true) [] := by
  have c1 := c_Name 106
  have c2 := c_refName 106
  rw [r_106] at c1 c2
  refine specE ok sh7 rfl ?_
  conv => whnf
  refine call_of [] (c_ary_add 106 r_106) (by rfl) (by rfl) ?_
  conv => whnf
  refine call_of [] (c_rar_add 106 r_106) (by rfl) (by rfl) ?_
  conv => whnf
  refine call_of [] (c1) (by rfl) (by rfl) ?_
  conv => whnf
  refine call_of [] (c2) (by rfl) (by rfl) ?_
  conv => whnf
  refine call_of [] (c_types_106) (by rfl) (by rfl) ?_
  conv => whnf
  refine call_of [] (c_bits_106) (by rfl) (by rfl) ?_
  conv => whnf
  refine ⟨by decide, ?_⟩
  conv => whnf
  refine call_of [] (c_ans_106) (by rfl) (by rfl) ?_
  conv => whnf
  refine ⟨by decide, ?_⟩
  conv => whnf
  exact end_of [] (by rfl) (by rfl) (by rfl) (by exact ⟨rfl, rfl⟩)

theorem r_107 : refL 107 = n_sub := by kernel_rfl
theorem f_107 : F2 107 n_sub false := by
  have := c_find 107
  rw [show findL 107 GS = (n_sub, false) by kernel_rfl] at this
  exact this

set_option maxRecDepth 100000 in
theorem c_bits_107 : SpecD S 22 [.int .i64 107] [] (.int .i64 32) [] := by
  have c := c_refName 107
  rw [r_107] at c
  refine specE ok sh22 rfl ?_
  conv => whnf
  refine call_of [] (c) (by rfl) (by rfl) ?_
  conv => whnf
  exact end_of [] (by rfl) (by rfl) (by rfl) (by exact ⟨rfl, rfl⟩)

set_option maxRecDepth 100000 in
theorem c_test_107 : SpecD S 30 [.int .i64 107] [] (.bool false) [] := by
  refine specE ok sh30 rfl ?_
  conv => whnf
  exact end_of [] (by rfl) (by rfl) (by rfl) (by exact ⟨rfl, rfl⟩)

set_option maxRecDepth 100000 in
theorem c_ans_107 : SpecD S 23 [.int .i64 107] [] (.int .i64 32) [] := by
  refine specE ok sh23 rfl ?_
  conv => whnf
  refine call_of [] (c_test_107) (by rfl) (by rfl) ?_
  conv => whnf
  refine call_of [] (c_bits_107) (by rfl) (by rfl) ?_
  conv => whnf
  exact end_of [] (by rfl) (by rfl) (by rfl) (by exact ⟨rfl, rfl⟩)

set_option maxRecDepth 100000 in
theorem c_types_107 : SpecD S 21 [.int .i64 107] [] (.tup [.int .i64 1, .int .i64 1, .int .i64 0]) [] := by
  refine specE ok sh21 rfl ?_
  conv => whnf
  refine call_of [] (f_107) (by rfl) (by rfl) ?_
  conv => whnf
  exact end_of [] (by rfl) (by rfl) (by rfl) (by exact ⟨rfl, rfl⟩)

set_option maxRecDepth 100000 in
theorem c_knows_107 : SpecD S 7 [.int .i64 107] [] (.bool true) [] := by
  have c1 := c_Name 107
  have c2 := c_refName 107
  rw [r_107] at c1 c2
  refine specE ok sh7 rfl ?_
  conv => whnf
  refine call_of [] (c_ary_sub 107 r_107) (by rfl) (by rfl) ?_
  conv => whnf
  refine call_of [] (c_rar_sub 107 r_107) (by rfl) (by rfl) ?_
  conv => whnf
  refine call_of [] (c1) (by rfl) (by rfl) ?_
  conv => whnf
  refine call_of [] (c2) (by rfl) (by rfl) ?_
  conv => whnf
  refine call_of [] (c_types_107) (by rfl) (by rfl) ?_
  conv => whnf
  refine call_of [] (c_bits_107) (by rfl) (by rfl) ?_
  conv => whnf
  refine ⟨by decide, ?_⟩
  conv => whnf
  refine call_of [] (c_ans_107) (by rfl) (by rfl) ?_
  conv => whnf
  refine ⟨by decide, ?_⟩
  conv => whnf
  exact end_of [] (by rfl) (by rfl) (by rfl) (by exact ⟨rfl, rfl⟩)

theorem r_108 : refL 108 = n_mul := by kernel_rfl
theorem f_108 : F2 108 n_mul false := by
  have := c_find 108
  rw [show findL 108 GS = (n_mul, false) by kernel_rfl] at this
  exact this

set_option maxRecDepth 100000 in
theorem c_bits_108 : SpecD S 22 [.int .i64 108] [] (.int .i64 32) [] := by
  have c := c_refName 108
  rw [r_108] at c
  refine specE ok sh22 rfl ?_
  conv => whnf
  refine call_of [] (c) (by rfl) (by rfl) ?_
  conv => whnf
  exact end_of [] (by rfl) (by rfl) (by rfl) (by exact ⟨rfl, rfl⟩)

set_option maxRecDepth 100000 in
theorem c_test_108 : SpecD S 30 [.int .i64 108] [] (.bool false) [] := by
  refine specE ok sh30 rfl ?_
  conv => whnf
  exact end_of [] (by rfl) (by rfl) (by rfl) (by exact ⟨rfl, rfl⟩)

set_option maxRecDepth 100000 in
theorem c_ans_108 : SpecD S 23 [.int .i64 108] [] (.int .i64 32) [] := by
  refine specE ok sh23 rfl ?_
  conv => whnf
  refine call_of [] (c_test_108) (by rfl) (by rfl) ?_
  conv => whnf
  refine call_of [] (c_bits_108) (by rfl) (by rfl) ?_
  conv => whnf
  exact end_of [] (by rfl) (by rfl) (by rfl) (by exact ⟨rfl, rfl⟩)

set_option maxRecDepth 100000 in
theorem c_types_108 : SpecD S 21 [.int .i64 108] [] (.tup [.int .i64 1, .int .i64 1, .int .i64 0]) [] := by
  refine specE ok sh21 rfl ?_
  conv => whnf
  refine call_of [] (f_108) (by rfl) (by rfl) ?_
  conv => whnf
  exact end_of [] (by rfl) (by rfl) (by rfl) (by exact ⟨rfl, rfl⟩)

set_option maxRecDepth 100000 in
theorem c_knows_108 : SpecD S 7 [.int .i64 108] [] (.bool true) [] := by
  have c1 := c_Name 108
  have c2 := c_refName 108
  rw [r_108] at c1 c2
  refine specE ok sh7 rfl ?_
  conv => whnf
  refine call_of [] (c_ary_mul 108 r_108) (by rfl) (by rfl) ?_
  conv => whnf
  refine call_of [] (c_rar_mul 108 r_108) (by rfl) (by rfl) ?_
  conv => whnf
  refine call_of [] (c1) (by rfl) (by rfl) ?_
  conv => whnf
  refine call_of [] (c2) (by rfl) (by rfl) ?_
  conv => whnf
  refine call_of [] (c_types_108) (by rfl) (by rfl) ?_
  conv => whnf
  refine call_of [] (c_bits_108) (by rfl) (by rfl) ?_
  conv => whnf
  refine ⟨by decide, ?_⟩
  conv => whnf
  refine call_of [] (c_ans_108) (by rfl) (by rfl) ?_
  conv => whnf
  refine ⟨by decide, ?_⟩
  conv => whnf
  exact end_of [] (by rfl) (by rfl) (by rfl) (by exact ⟨rfl, rfl⟩)

theorem r_109 : refL 109 = n_div_s := by kernel_rfl
theorem f_109 : F2 109 n_div_s false := by
  have := c_find 109
  rw [show findL 109 GS = (n_div_s, false) by kernel_rfl] at this
  exact this

set_option maxRecDepth 100000 in
theorem c_bits_109 : SpecD S 22 [.int .i64 109] [] (.int .i64 32) [] := by
  have c := c_refName 109
  rw [r_109] at c
  refine specE ok sh22 rfl ?_
  conv => whnf
  refine call_of [] (c) (by rfl) (by rfl) ?_
  conv => whnf
  exact end_of [] (by rfl) (by rfl) (by rfl) (by exact ⟨rfl, rfl⟩)

set_option maxRecDepth 100000 in
theorem c_test_109 : SpecD S 30 [.int .i64 109] [] (.bool false) [] := by
  refine specE ok sh30 rfl ?_
  conv => whnf
  exact end_of [] (by rfl) (by rfl) (by rfl) (by exact ⟨rfl, rfl⟩)

set_option maxRecDepth 100000 in
theorem c_ans_109 : SpecD S 23 [.int .i64 109] [] (.int .i64 32) [] := by
  refine specE ok sh23 rfl ?_
  conv => whnf
  refine call_of [] (c_test_109) (by rfl) (by rfl) ?_
  conv => whnf
  refine call_of [] (c_bits_109) (by rfl) (by rfl) ?_
  conv => whnf
  exact end_of [] (by rfl) (by rfl) (by rfl) (by exact ⟨rfl, rfl⟩)

set_option maxRecDepth 100000 in
theorem c_types_109 : SpecD S 21 [.int .i64 109] [] (.tup [.int .i64 1, .int .i64 1, .int .i64 0]) [] := by
  refine specE ok sh21 rfl ?_
  conv => whnf
  refine call_of [] (f_109) (by rfl) (by rfl) ?_
  conv => whnf
  exact end_of [] (by rfl) (by rfl) (by rfl) (by exact ⟨rfl, rfl⟩)

set_option maxRecDepth 100000 in
theorem c_knows_109 : SpecD S 7 [.int .i64 109] [] (.bool true) [] := by
  have c1 := c_Name 109
  have c2 := c_refName 109
  rw [r_109] at c1 c2
  refine specE ok sh7 rfl ?_
  conv => whnf
  refine call_of [] (c_ary_div_s 109 r_109) (by rfl) (by rfl) ?_
  conv => whnf
  refine call_of [] (c_rar_div_s 109 r_109) (by rfl) (by rfl) ?_
  conv => whnf
  refine call_of [] (c1) (by rfl) (by rfl) ?_
  conv => whnf
  refine call_of [] (c2) (by rfl) (by rfl) ?_
  conv => whnf
  refine call_of [] (c_types_109) (by rfl) (by rfl) ?_
  conv => whnf
  refine call_of [] (c_bits_109) (by rfl) (by rfl) ?_
  conv => whnf
  refine ⟨by decide, ?_⟩
  conv => whnf
  refine call_of [] (c_ans_109) (by rfl) (by rfl) ?_
  conv => whnf
  refine ⟨by decide, ?_⟩
  conv => whnf
  exact end_of [] (by rfl) (by rfl) (by rfl) (by exact ⟨rfl, rfl⟩)

theorem r_110 : refL 110 = n_div_u := by kernel_rfl
theorem f_110 : F2 110 n_div_u false := by
  have := c_find 110
  rw [show findL 110 GS = (n_div_u, false) by kernel_rfl] at this
  exact this

set_option maxRecDepth 100000 in
theorem c_bits_110 : SpecD S 22 [.int .i64 110] [] (.int .i64 32) [] := by
  have c := c_refName 110
  rw [r_110] at c
  refine specE ok sh22 rfl ?_
  conv => whnf
  refine call_of [] (c) (by rfl) (by rfl) ?_
  conv => whnf
  exact end_of [] (by rfl) (by rfl) (by rfl) (by exact ⟨rfl, rfl⟩)

set_option maxRecDepth 100000 in
theorem c_test_110 : SpecD S 30 [.int .i64 110] [] (.bool false) [] := by
  refine specE ok sh30 rfl ?_
  conv => whnf
  exact end_of [] (by rfl) (by rfl) (by rfl) (by exact ⟨rfl, rfl⟩)

set_option maxRecDepth 100000 in
theorem c_ans_110 : SpecD S 23 [.int .i64 110] [] (.int .i64 32) [] := by
  refine specE ok sh23 rfl ?_
  conv => whnf
  refine call_of [] (c_test_110) (by rfl) (by rfl) ?_
  conv => whnf
  refine call_of [] (c_bits_110) (by rfl) (by rfl) ?_
  conv => whnf
  exact end_of [] (by rfl) (by rfl) (by rfl) (by exact ⟨rfl, rfl⟩)

set_option maxRecDepth 100000 in
theorem c_types_110 : SpecD S 21 [.int .i64 110] [] (.tup [.int .i64 1, .int .i64 1, .int .i64 0]) [] := by
  refine specE ok sh21 rfl ?_
  conv => whnf
  refine call_of [] (f_110) (by rfl) (by rfl) ?_
  conv => whnf
  exact end_of [] (by rfl) (by rfl) (by rfl) (by exact ⟨rfl, rfl⟩)

set_option maxRecDepth 100000 in
theorem c_knows_110 : SpecD S 7 [.int .i64 110] [] (.bool true) [] := by
  have c1 := c_Name 110
  have c2 := c_refName 110
  rw [r_110] at c1 c2
  refine specE ok sh7 rfl ?_
  conv => whnf
  refine call_of [] (c_ary_div_u 110 r_110) (by rfl) (by rfl) ?_
  conv => whnf
  refine call_of [] (c_rar_div_u 110 r_110) (by rfl) (by rfl) ?_
  conv => whnf
  refine call_of [] (c1) (by rfl) (by rfl) ?_
  conv => whnf
  refine call_of [] (c2) (by rfl) (by rfl) ?_
  conv => whnf
  refine call_of [] (c_types_110) (by rfl) (by rfl) ?_
  conv => whnf
  refine call_of [] (c_bits_110) (by rfl) (by rfl) ?_
  conv => whnf
  refine ⟨by decide, ?_⟩
  conv => whnf
  refine call_of [] (c_ans_110) (by rfl) (by rfl) ?_
  conv => whnf
  refine ⟨by decide, ?_⟩
  conv => whnf
  exact end_of [] (by rfl) (by rfl) (by rfl) (by exact ⟨rfl, rfl⟩)

theorem r_111 : refL 111 = n_rem_s := by kernel_rfl
theorem f_111 : F2 111 n_rem_s false := by
  have := c_find 111
  rw [show findL 111 GS = (n_rem_s, false) by kernel_rfl] at this
  exact this

set_option maxRecDepth 100000 in
theorem c_bits_111 : SpecD S 22 [.int .i64 111] [] (.int .i64 32) [] := by
  have c := c_refName 111
  rw [r_111] at c
  refine specE ok sh22 rfl ?_
  conv => whnf
  refine call_of [] (c) (by rfl) (by rfl) ?_
  conv => whnf
  exact end_of [] (by rfl) (by rfl) (by rfl) (by exact ⟨rfl, rfl⟩)

set_option maxRecDepth 100000 in
theorem c_test_111 : SpecD S 30 [.int .i64 111] [] (.bool false) [] := by
  refine specE ok sh30 rfl ?_
  conv => whnf
  exact end_of [] (by rfl) (by rfl) (by rfl) (by exact ⟨rfl, rfl⟩)

set_option maxRecDepth 100000 in
theorem c_ans_111 : SpecD S 23 [.int .i64 111] [] (.int .i64 32) [] := by
  refine specE ok sh23 rfl ?_
  conv => whnf
  refine call_of [] (c_test_111) (by rfl) (by rfl) ?_
  conv => whnf
  refine call_of [] (c_bits_111) (by rfl) (by rfl) ?_
  conv => whnf
  exact end_of [] (by rfl) (by rfl) (by rfl) (by exact ⟨rfl, rfl⟩)

set_option maxRecDepth 100000 in
theorem c_types_111 : SpecD S 21 [.int .i64 111] [] (.tup [.int .i64 1, .int .i64 1, .int .i64 0]) [] := by
  refine specE ok sh21 rfl ?_
  conv => whnf
  refine call_of [] (f_111) (by rfl) (by rfl) ?_
  conv => whnf
  exact end_of [] (by rfl) (by rfl) (by rfl) (by exact ⟨rfl, rfl⟩)

set_option maxRecDepth 100000 in
theorem c_knows_111 : SpecD S 7 [.int .i64 111] [] (.bool true) [] := by
  have c1 := c_Name 111
  have c2 := c_refName 111
  rw [r_111] at c1 c2
  refine specE ok sh7 rfl ?_
  conv => whnf
  refine call_of [] (c_ary_rem_s 111 r_111) (by rfl) (by rfl) ?_
  conv => whnf
  refine call_of [] (c_rar_rem_s 111 r_111) (by rfl) (by rfl) ?_
  conv => whnf
  refine call_of [] (c1) (by rfl) (by rfl) ?_
  conv => whnf
  refine call_of [] (c2) (by rfl) (by rfl) ?_
  conv => whnf
  refine call_of [] (c_types_111) (by rfl) (by rfl) ?_
  conv => whnf
  refine call_of [] (c_bits_111) (by rfl) (by rfl) ?_
  conv => whnf
  refine ⟨by decide, ?_⟩
  conv => whnf
  refine call_of [] (c_ans_111) (by rfl) (by rfl) ?_
  conv => whnf
  refine ⟨by decide, ?_⟩
  conv => whnf
  exact end_of [] (by rfl) (by rfl) (by rfl) (by exact ⟨rfl, rfl⟩)

theorem r_112 : refL 112 = n_rem_u := by kernel_rfl
theorem f_112 : F2 112 n_rem_u false := by
  have := c_find 112
  rw [show findL 112 GS = (n_rem_u, false) by kernel_rfl] at this
  exact this

set_option maxRecDepth 100000 in
theorem c_bits_112 : SpecD S 22 [.int .i64 112] [] (.int .i64 32) [] := by
  have c := c_refName 112
  rw [r_112] at c
  refine specE ok sh22 rfl ?_
  conv => whnf
  refine call_of [] (c) (by rfl) (by rfl) ?_
  conv => whnf
  exact end_of [] (by rfl) (by rfl) (by rfl) (by exact ⟨rfl, rfl⟩)

set_option maxRecDepth 100000 in
theorem c_test_112 : SpecD S 30 [.int .i64 112] [] (.bool false) [] := by
  refine specE ok sh30 rfl ?_
  conv => whnf
  exact end_of [] (by rfl) (by rfl) (by rfl) (by exact ⟨rfl, rfl⟩)

set_option maxRecDepth 100000 in
theorem c_ans_112 : SpecD S 23 [.int .i64 112] [] (.int .i64 32) [] := by
  refine specE ok sh23 rfl ?_
  conv => whnf
  refine call_of [] (c_test_112) (by rfl) (by rfl) ?_
  conv => whnf
  refine call_of [] (c_bits_112) (by rfl) (by rfl) ?_
  conv => whnf
  exact end_of [] (by rfl) (by rfl) (by rfl) (by exact ⟨rfl, rfl⟩)

set_option maxRecDepth 100000 in
theorem c_types_112 : SpecD S 21 [.int .i64 112] [] (.tup [.int .i64 1, .int .i64 1, .int .i64 0]) [] := by
  refine specE ok sh21 rfl ?_
  conv => whnf
  refine call_of [] (f_112) (by rfl) (by rfl) ?_
  conv => whnf
  exact end_of [] (by rfl) (by rfl) (by rfl) (by exact ⟨rfl, rfl⟩)

set_option maxRecDepth 100000 in
theorem c_knows_112 : SpecD S 7 [.int .i64 112] [] (.bool true) [] := by
  have c1 := c_Name 112
  have c2 := c_refName 112
  rw [r_112] at c1 c2
  refine specE ok sh7 rfl ?_
  conv => whnf
  refine call_of [] (c_ary_rem_u 112 r_112) (by rfl) (by rfl) ?_
  conv => whnf
  refine call_of [] (c_rar_rem_u 112 r_112) (by rfl) (by rfl) ?_
  conv => whnf
  refine call_of [] (c1) (by rfl) (by rfl) ?_
  conv => whnf
  refine call_of [] (c2) (by rfl) (by rfl) ?_
  conv => whnf
  refine call_of [] (c_types_112) (by rfl) (by rfl) ?_
  conv => whnf
  refine call_of [] (c_bits_112) (by rfl) (by rfl) ?_
  conv => whnf
  refine ⟨by decide, ?_⟩
  conv => whnf
  refine call_of [] (c_ans_112) (by rfl) (by rfl) ?_
  conv => whnf
  refine ⟨by decide, ?_⟩
  conv => whnf
  exact end_of [] (by rfl) (by rfl) (by rfl) (by exact ⟨rfl, rfl⟩)

theorem r_113 : refL 113 = n_and := by kernel_rfl
theorem f_113 : F2 113 n_and false := by
  have := c_find 113
  rw [show findL 113 GS = (n_and, false) by kernel_rfl] at this
  exact this

set_option maxRecDepth 100000 in
theorem c_bits_113 : SpecD S 22 [.int .i64 113] [] (.int .i64 32) [] := by
  have c := c_refName 113
  rw [r_113] at c
  refine specE ok sh22 rfl ?_
  conv => whnf
  refine call_of [] (c) (by rfl) (by rfl) ?_
  conv => whnf
  exact end_of [] (by rfl) (by rfl) (by rfl) (by exact ⟨rfl, rfl⟩)

set_option maxRecDepth 100000 in
theorem c_test_113 : SpecD S 30 [.int .i64 113] [] (.bool false) [] := by
  refine specE ok sh30 rfl ?_
  conv => whnf
  exact end_of [] (by rfl) (by rfl) (by rfl) (by exact ⟨rfl, rfl⟩)

set_option maxRecDepth 100000 in
theorem c_ans_113 : SpecD S 23 [.int .i64 113] [] (.int .i64 32) [] := by
  refine specE ok sh23 rfl ?_
  conv => whnf
  refine call_of [] (c_test_113) (by rfl) (by rfl) ?_
  conv => whnf
  refine call_of [] (c_bits_113) (by rfl) (by rfl) ?_
  conv => whnf
  exact end_of [] (by rfl) (by rfl) (by rfl) (by exact ⟨rfl, rfl⟩)

set_option maxRecDepth 100000 in
theorem c_types_113 : SpecD S 21 [.int .i64 113] [] (.tup [.int .i64 1, .int .i64 1, .int .i64 0]) [] := by
  refine specE ok sh21 rfl ?_
  conv => whnf
  refine call_of [] (f_113) (by rfl) (by rfl) ?_
  conv => whnf
  exact end_of [] (by rfl) (by rfl) (by rfl) (by exact ⟨rfl, rfl⟩)

set_option maxRecDepth 100000 in
theorem c_knows_113 : SpecD S 7 [.int .i64 113] [] (.bool true) [] := by
  have c1 := c_Name 113
  have c2 := c_refName 113
  rw [r_113] at c1 c2
  refine specE ok sh7 rfl ?_
  conv => whnf
  refine call_of [] (c_ary_and 113 r_113) (by rfl) (by rfl) ?_
  conv => whnf
  refine call_of [] (c_rar_and 113 r_113) (by rfl) (by rfl) ?_
  conv => whnf
  refine call_of [] (c1) (by rfl) (by rfl) ?_
  conv => whnf
  refine call_of [] (c2) (by rfl) (by rfl) ?_
  conv => whnf
  refine call_of [] (c_types_113) (by rfl) (by rfl) ?_
  conv => whnf
  refine call_of [] (c_bits_113) (by rfl) (by rfl) ?_
  conv => whnf
  refine ⟨by decide, ?_⟩
  conv => whnf
  refine call_of [] (c_ans_113) (by rfl) (by rfl) ?_
  conv => whnf
  refine ⟨by decide, ?_⟩
  conv => whnf
  exact end_of [] (by rfl) (by rfl) (by rfl) (by exact ⟨rfl, rfl⟩)

theorem r_114 : refL 114 = n_or := by kernel_rfl
theorem f_114 : F2 114 n_or false := by
  have := c_find 114
  rw [show findL 114 GS = (n_or, false) by kernel_rfl] at this
  exact this

set_option maxRecDepth 100000 in
theorem c_bits_114 : SpecD S 22 [.int .i64 114] [] (.int .i64 32) [] := by
  have c := c_refName 114
  rw [r_114] at c
  refine specE ok sh22 rfl ?_
  conv => whnf
  refine call_of [] (c) (by rfl) (by rfl) ?_
  conv => whnf
  exact end_of [] (by rfl) (by rfl) (by rfl) (by exact ⟨rfl, rfl⟩)

set_option maxRecDepth 100000 in
theorem c_test_114 : SpecD S 30 [.int .i64 114] [] (.bool false) [] := by
  refine specE ok sh30 rfl ?_
  conv => whnf
  exact end_of [] (by rfl) (by rfl) (by rfl) (by exact ⟨rfl, rfl⟩)

set_option maxRecDepth 100000 in
theorem c_ans_114 : SpecD S 23 [.int .i64 114] [] (.int .i64 32) [] := by
  refine specE ok sh23 rfl ?_
  conv => whnf
  refine call_of [] (c_test_114) (by rfl) (by rfl) ?_
  conv => whnf
  refine call_of [] (c_bits_114) (by rfl) (by rfl) ?_
  conv => whnf
  exact end_of [] (by rfl) (by rfl) (by rfl) (by exact ⟨rfl, rfl⟩)

set_option maxRecDepth 100000 in
theorem c_types_114 : SpecD S 21 [.int .i64 114] [] (.tup [.int .i64 1, .int .i64 1, .int .i64 0]) [] := by
  refine specE ok sh21 rfl ?_
  conv => whnf
  refine call_of [] (f_114) (by rfl) (by rfl) ?_
  conv => whnf
  exact end_of [] (by rfl) (by rfl) (by rfl) (by exact ⟨rfl, rfl⟩)

set_option maxRecDepth 100000 in
theorem c_knows_114 : SpecD S 7 [.int .i64 114] [] (.bool true) [] := by
  have c1 := c_Name 114
  have c2 := c_refName 114
  rw [r_114] at c1 c2
  refine specE ok sh7 rfl ?_
  conv => whnf
  refine call_of [] (c_ary_or 114 r_114) (by rfl) (by rfl) ?_
  conv => whnf
  refine call_of [] (c_rar_or 114 r_114) (by rfl) (by rfl) ?_
  conv => whnf
  refine call_of [] (c1) (by rfl) (by rfl) ?_
  conv => whnf
  refine call_of [] (c2) (by rfl) (by rfl) ?_
  conv => whnf
  refine call_of [] (c_types_114) (by rfl) (by rfl) ?_
  conv => whnf
  refine call_of [] (c_bits_114) (by rfl) (by rfl) ?_
  conv => whnf
  refine ⟨by decide, ?_⟩
  conv => whnf
  refine call_of [] (c_ans_114) (by rfl) (by rfl) ?_
  conv => whnf
  refine ⟨by decide, ?_⟩
  conv => whnf
  exact end_of [] (by rfl) (by rfl) (by rfl) (by exact ⟨rfl, rfl⟩)

theorem r_115 : refL 115 = n_xor := by kernel_rfl
theorem f_115 : F2 115 n_xor false := by
  have := c_find 115
  rw [show findL 115 GS = (n_xor, false) by kernel_rfl] at this
  exact this

set_option maxRecDepth 100000 in
theorem c_bits_115 : SpecD S 22 [.int .i64 115] [] (.int .i64 32) [] := by
  have c := c_refName 115
  rw [r_115] at c
  refine specE ok sh22 rfl ?_
  conv => whnf
  refine call_of [] (c) (by rfl) (by rfl) ?_
  conv => whnf
  exact end_of [] (by rfl) (by rfl) (by rfl) (by exact ⟨rfl, rfl⟩)

set_option maxRecDepth 100000 in
theorem c_test_115 : SpecD S 30 [.int .i64 115] [] (.bool false) [] := by
  refine specE ok sh30 rfl ?_
  conv => whnf
  exact end_of [] (by rfl) (by rfl) (by rfl) (by exact ⟨rfl, rfl⟩)

set_option maxRecDepth 100000 in
theorem c_ans_115 : SpecD S 23 [.int .i64 115] [] (.int .i64 32) [] := by
  refine specE ok sh23 rfl ?_
  conv => whnf
  refine call_of [] (c_test_115) (by rfl) (by rfl) ?_
  conv => whnf
  refine call_of [] (c_bits_115) (by rfl) (by rfl) ?_
  conv => whnf
  exact end_of [] (by rfl) (by rfl) (by rfl) (by exact ⟨rfl, rfl⟩)

set_option maxRecDepth 100000 in
theorem c_types_115 : SpecD S 21 [.int .i64 115] [] (.tup [.int .i64 1, .int .i64 1, .int .i64 0]) [] := by
  refine specE ok sh21 rfl ?_
  conv => whnf
  refine call_of [] (f_115) (by rfl) (by rfl) ?_
  conv => whnf
  exact end_of [] (by rfl) (by rfl) (by rfl) (by exact ⟨rfl, rfl⟩)

set_option maxRecDepth 100000 in
theorem c_knows_115 : SpecD S 7 [.int .i64 115] [] (.bool true) [] := by
  have c1 := c_Name 115
  have c2 := c_refName 115
  rw [r_115] at c1 c2
  refine specE ok sh7 rfl ?_
  conv => whnf
  refine call_of [] (c_ary_xor 115 r_115) (by rfl) (by rfl) ?_
  conv => whnf
  refine call_of [] (c_rar_xor 115 r_115) (by rfl) (by rfl) ?_
  conv => whnf
  refine call_of [] (c1) (by rfl) (by rfl) ?_
  conv => whnf
  refine call_of [] (c2) (by rfl) (by rfl) ?_
  conv => whnf
  refine call_of [] (c_types_115) (by rfl) (by rfl) ?_
  conv => whnf
  refine call_of [] (c_bits_115) (by rfl) (by rfl) ?_
  conv => whnf
  refine ⟨by decide, ?_⟩
  conv => whnf
  refine call_of [] (c_ans_115) (by rfl) (by rfl) ?_
  conv => whnf
  refine ⟨by decide, ?_⟩
  conv => whnf
  exact end_of [] (by rfl) (by rfl) (by rfl) (by exact ⟨rfl, rfl⟩)

theorem r_116 : refL 116 = n_shl := by kernel_rfl
theorem f_116 : F2 116 n_shl false := by
  have := c_find 116
  rw [show findL 116 GS = (n_shl, false) by kernel_rfl] at this
  exact this

set_option maxRecDepth 100000 in
theorem c_bits_116 : SpecD S 22 [.int .i64 116] [] (.int .i64 32) [] := by
  have c := c_refName 116
  rw [r_116] at c
  refine specE ok sh22 rfl ?_
  conv => whnf
  refine call_of [] (c) (by rfl) (by rfl) ?_
  conv => whnf
  exact end_of [] (by rfl) (by rfl) (by rfl) (by exact ⟨rfl, rfl⟩)

set_option maxRecDepth 100000 in
theorem c_test_116 : SpecD S 30 [.int .i64 116] [] (.bool false) [] := by
  refine specE ok sh30 rfl ?_
  conv => whnf
  exact end_of [] (by rfl) (by rfl) (by rfl) (by exact ⟨rfl, rfl⟩)

set_option maxRecDepth 100000 in
theorem c_ans_116 : SpecD S 23 [.int .i64 116] [] (.int .i64 32) [] := by
  refine specE ok sh23 rfl ?_
  conv => whnf
  refine call_of [] (c_test_116) (by rfl) (by rfl) ?_
  conv => whnf
  refine call_of [] (c_bits_116) (by rfl) (by rfl) ?_
  conv => whnf
  exact end_of [] (by rfl) (by rfl) (by rfl) (by exact ⟨rfl, rfl⟩)

set_option maxRecDepth 100000 in
theorem c_types_116 : SpecD S 21 [.int .i64 116] [] (.tup [.int .i64 1, .int .i64 1, .int .i64 0]) [] := by
  refine specE ok sh21 rfl ?_
  conv => whnf
  refine call_of [] (f_116) (by rfl) (by rfl) ?_
  conv => whnf
  exact end_of [] (by rfl) (by rfl) (by rfl) (by exact ⟨rfl, rfl⟩)

set_option maxRecDepth 100000 in
theorem c_knows_116 : SpecD S 7 [.int .i64 116] [] (.bool true) [] := by
  have c1 := c_Name 116
  have c2 := c_refName 116
  rw [r_116] at c1 c2
  refine specE ok sh7 rfl ?_
  conv => whnf
  refine call_of [] (c_ary_shl 116 r_116) (by rfl) (by rfl) ?_
  conv => whnf
  refine call_of [] (c_rar_shl 116 r_116) (by rfl) (by rfl) ?_
  conv => whnf
  refine call_of [] (c1) (by rfl) (by rfl) ?_
  conv => whnf
  refine call_of [] (c2) (by rfl) (by rfl) ?_
  conv => whnf
  refine call_of [] (c_types_116) (by rfl) (by rfl) ?_
  conv => whnf
  refine call_of [] (c_bits_116) (by rfl) (by rfl) ?_
  conv => whnf
  refine ⟨by decide, ?_⟩
  conv => whnf
  refine call_of [] (c_ans_116) (by rfl) (by rfl) ?_
  conv => whnf
  refine ⟨by decide, ?_⟩
  conv => whnf
  exact end_of [] (by rfl) (by rfl) (by rfl) (by exact ⟨rfl, rfl⟩)

theorem r_117 : refL 117 = n_shr_s := by kernel_rfl
theorem f_117 : F2 117 n_shr_s false := by
  have := c_find 117
  rw [show findL 117 GS = (n_shr_s, false) by kernel_rfl] at this
  exact this

set_option maxRecDepth 100000 in
theorem c_bits_117 : SpecD S 22 [.int .i64 117] [] (.int .i64 32) [] := by
  have c := c_refName 117
  rw [r_117] at c
  refine specE ok sh22 rfl ?_
  conv => whnf
  refine call_of [] (c) (by rfl) (by rfl) ?_
  conv => whnf
  exact end_of [] (by rfl) (by rfl) (by rfl) (by exact ⟨rfl, rfl⟩)

set_option maxRecDepth 100000 in
theorem c_test_117 : SpecD S 30 [.int .i64 117] [] (.bool false) [] := by
  refine specE ok sh30 rfl ?_
  conv => whnf
  exact end_of [] (by rfl) (by rfl) (by rfl) (by exact ⟨rfl, rfl⟩)

set_option maxRecDepth 100000 in
theorem c_ans_117 : SpecD S 23 [.int .i64 117] [] (.int .i64 32) [] := by
  refine specE ok sh23 rfl ?_
  conv => whnf
  refine call_of [] (c_test_117) (by rfl) (by rfl) ?_
  conv => whnf
  refine call_of [] (c_bits_117) (by rfl) (by rfl) ?_
  conv => whnf
  exact end_of [] (by rfl) (by rfl) (by rfl) (by exact ⟨rfl, rfl⟩)

set_option maxRecDepth 100000 in
theorem c_types_117 : SpecD S 21 [.int .i64 117] [] (.tup [.int .i64 1, .int .i64 1, .int .i64 0]) [] := by
  refine specE ok sh21 rfl ?_
  conv => whnf
  refine call_of [] (f_117) (by rfl) (by rfl) ?_
  conv => whnf
  exact end_of [] (by rfl) (by rfl) (by rfl) (by exact ⟨rfl, rfl⟩)

set_option maxRecDepth 100000 in
theorem c_knows_117 : SpecD S 7 [.int .i64 117] [] (.bool true) [] := by
  have c1 := c_Name 117
  have c2 := c_refName 117
  rw [r_117] at c1 c2
  refine specE ok sh7 rfl ?_
  conv => whnf
  refine call_of [] (c_ary_shr_s 117 r_117) (by rfl) (by rfl) ?_
  conv => whnf
  refine call_of [] (c_rar_shr_s 117 r_117) (by rfl) (by rfl) ?_
  conv => whnf
  refine call_of [] (c1) (by rfl) (by rfl) ?_
  conv => whnf
  refine call_of [] (c2) (by rfl) (by rfl) ?_
  conv => whnf
  refine call_of [] (c_types_117) (by rfl) (by rfl) ?_
  conv => whnf
  refine call_of [] (c_bits_117) (by rfl) (by rfl) ?_
  conv => whnf
  refine ⟨by decide, ?_⟩
  conv => whnf
  refine call_of [] (c_ans_117) (by rfl) (by rfl) ?_
  conv => whnf
  refine ⟨by decide, ?_⟩
  conv => whnf
  exact end_of [] (by rfl) (by rfl) (by rfl) (by exact ⟨rfl, rfl⟩)

theorem r_118 : refL 118 = n_shr_u := by kernel_rfl
theorem f_118 : F2 118 n_shr_u false := by
  have := c_find 118
  rw [show findL 118 GS = (n_shr_u, false) by kernel_rfl] at this
  exact this

set_option maxRecDepth 100000 in
theorem c_bits_118 : SpecD S 22 [.int .i64 118] [] (.int .i64 32) [] := by
  have c := c_refName 118
  rw [r_118] at c
  refine specE ok sh22 rfl ?_
  conv => whnf
  refine call_of [] (c) (by rfl) (by rfl) ?_
  conv => whnf
  exact end_of [] (by rfl) (by rfl) (by rfl) (by exact ⟨rfl, rfl⟩)

set_option maxRecDepth 100000 in
theorem c_test_118 : SpecD S 30 [.int .i64 118] [] (.bool false) [] := by
  refine specE ok sh30 rfl ?_
  conv => whnf
  exact end_of [] (by rfl) (by rfl) (by rfl) (by exact ⟨rfl, rfl⟩)

set_option maxRecDepth 100000 in
theorem c_ans_118 : SpecD S 23 [.int .i64 118] [] (.int .i64 32) [] := by
  refine specE ok sh23 rfl ?_
  conv => whnf
  refine call_of [] (c_test_118) (by rfl) (by rfl) ?_
  conv => whnf
  refine call_of [] (c_bits_118) (by rfl) (by rfl) ?_
  conv => whnf
  exact end_of [] (by rfl) (by rfl) (by rfl) (by exact ⟨rfl, rfl⟩)

set_option maxRecDepth 100000 in
theorem c_types_118 : SpecD S 21 [.int .i64 118] [] (.tup [.int .i64 1, .int .i64 1, .int .i64 0]) [] := by
  refine specE ok sh21 rfl ?_
  conv => whnf
  refine call_of [] (f_118) (by rfl) (by rfl) ?_
  conv => whnf
  exact end_of [] (by rfl) (by rfl) (by rfl) (by exact ⟨rfl, rfl⟩)

set_option maxRecDepth 100000 in
theorem c_knows_118 : SpecD S 7 [.int .i64 118] [] (.bool true) [] := by
  have c1 := c_Name 118
  have c2 := c_refName 118
  rw [r_118] at c1 c2
  refine specE ok sh7 rfl ?_
  conv => whnf
  refine call_of [] (c_ary_shr_u 118 r_118) (by rfl) (by rfl) ?_
  conv => whnf
  refine call_of [] (c_rar_shr_u 118 r_118) (by rfl) (by rfl) ?_
  conv => whnf
  refine call_of [] (c1) (by rfl) (by rfl) ?_
  conv => whnf
  refine call_of [] (c2) (by rfl) (by rfl) ?_
  conv => whnf
  refine call_of [] (c_types_118) (by rfl) (by rfl) ?_
  conv => whnf
  refine call_of [] (c_bits_118) (by rfl) (by rfl) ?_
  conv => whnf
  refine ⟨by decide, ?_⟩
  conv => whnf
  refine call_of [] (c_ans_118) (by rfl) (by rfl) ?_
  conv => whnf
  refine ⟨by decide, ?_⟩
  conv => whnf
  exact end_of [] (by rfl) (by rfl) (by rfl) (by exact ⟨rfl, rfl⟩)

theorem r_119 : refL 119 = n_rotl := by kernel_rfl
theorem f_119 : F2 119 n_rotl false := by
  have := c_find 119
  rw [show findL 119 GS = (n_rotl, false) by kernel_rfl] at this
  exact this

set_option maxRecDepth 100000 in
theorem c_bits_119 : SpecD S 22 [.int .i64 119] [] (.int .i64 32) [] := by
  have c := c_refName 119
  rw [r_119] at c
  refine specE ok sh22 rfl ?_
  conv => whnf
  refine call_of [] (c) (by rfl) (by rfl) ?_
  conv => whnf
  exact end_of [] (by rfl) (by rfl) (by rfl) (by exact ⟨rfl, rfl⟩)

set_option maxRecDepth 100000 in
theorem c_test_119 : SpecD S 30 [.int .i64 119] [] (.bool false) [] := by
  refine specE ok sh30 rfl ?_
  conv => whnf
  exact end_of [] (by rfl) (by rfl) (by rfl) (by exact ⟨rfl, rfl⟩)

set_option maxRecDepth 100000 in
theorem c_ans_119 : SpecD S 23 [.int .i64 119] [] (.int .i64 32) [] := by
  refine specE ok sh23 rfl ?_
  conv => whnf
  refine call_of [] (c_test_119) (by rfl) (by rfl) ?_
  conv => whnf
  refine call_of [] (c_bits_119) (by rfl) (by rfl) ?_
  conv => whnf
  exact end_of [] (by rfl) (by rfl) (by rfl) (by exact ⟨rfl, rfl⟩)

set_option maxRecDepth 100000 in
theorem c_types_119 : SpecD S 21 [.int .i64 119] [] (.tup [.int .i64 1, .int .i64 1, .int .i64 0]) [] := by
  refine specE ok sh21 rfl ?_
  conv => whnf
  refine call_of [] (f_119) (by rfl) (by rfl) ?_
  conv => whnf
  exact end_of [] (by rfl) (by rfl) (by rfl) (by exact ⟨rfl, rfl⟩)

set_option maxRecDepth 100000 in
theorem c_knows_119 : SpecD S 7 [.int .i64 119] [] (.bool true) [] := by
  have c1 := c_Name 119
  have c2 := c_refName 119
  rw [r_119] at c1 c2
  refine specE ok sh7 rfl ?_
  conv => whnf
  refine call_of [] (c_ary_rotl 119 r_119) (by rfl) (by rfl) ?_
  conv => whnf
  refine call_of [] (c_rar_rotl 119 r_119) (by rfl) (by rfl) ?_
  conv => whnf
  refine call_of [] (c1) (by rfl) (by rfl) ?_
  conv => whnf
  refine call_of [] (c2) (by rfl) (by rfl) ?_
  conv => whnf
  refine call_of [] (c_types_119) (by rfl) (by rfl) ?_
  conv => whnf
  refine call_of [] (c_bits_119) (by rfl) (by rfl) ?_
  conv => whnf
  refine ⟨by decide, ?_⟩
  conv => whnf
  refine call_of [] (c_ans_119) (by rfl) (by rfl) ?_
  conv => whnf
  refine ⟨by decide, ?_⟩
  conv => whnf
  exact end_of [] (by rfl) (by rfl) (by rfl) (by exact ⟨rfl, rfl⟩)

theorem r_120 : refL 120 = n_rotr := by kernel_rfl
theorem f_120 : F2 120 n_rotr false := by
  have := c_find 120
  rw [show findL 120 GS = (n_rotr, false) by kernel_rfl] at this
  exact this

set_option maxRecDepth 100000 in
theorem c_bits_120 : SpecD S 22 [.int .i64 120] [] (.int .i64 32) [] := by
  have c := c_refName 120
  rw [r_120] at c
  refine specE ok sh22 rfl ?_
  conv => whnf
  refine call_of [] (c) (by rfl) (by rfl) ?_
  conv => whnf
  exact end_of [] (by rfl) (by rfl) (by rfl) (by exact ⟨rfl, rfl⟩)

set_option maxRecDepth 100000 in
theorem c_test_120 : SpecD S 30 [.int .i64 120] [] (.bool false) [] := by
  refine specE ok sh30 rfl ?_
  conv => whnf
  exact end_of [] (by rfl) (by rfl) (by rfl) (by exact ⟨rfl, rfl⟩)

set_option maxRecDepth 100000 in
theorem c_ans_120 : SpecD S 23 [.int .i64 120] [] (.int .i64 32) [] := by
  refine specE ok sh23 rfl ?_
  conv => whnf
  refine call_of [] (c_test_120) (by rfl) (by rfl) ?_
  conv => whnf
  refine call_of [] (c_bits_120) (by rfl) (by rfl) ?_
  conv => whnf
  exact end_of [] (by rfl) (by rfl) (by rfl) (by exact ⟨rfl, rfl⟩)

set_option maxRecDepth 100000 in
theorem c_types_120 : SpecD S 21 [.int .i64 120] [] (.tup [.int .i64 1, .int .i64 1, .int .i64 0]) [] := by
  refine specE ok sh21 rfl ?_
  conv => whnf
  refine call_of [] (f_120) (by rfl) (by rfl) ?_
  conv => whnf
  exact end_of [] (by rfl) (by rfl) (by rfl) (by exact ⟨rfl, rfl⟩)

set_option maxRecDepth 100000 in
theorem c_knows_120 : SpecD S 7 [.int .i64 120] [] (.bool true) [] := by
  have c1 := c_Name 120
  have c2 := c_refName 120
  rw [r_120] at c1 c2
  refine specE ok sh7 rfl ?_
  conv => whnf
  refine call_of [] (c_ary_rotr 120 r_120) (by rfl) (by rfl) ?_
  conv => whnf
  refine call_of [] (c_rar_rotr 120 r_120) (by rfl) (by rfl) ?_
  conv => whnf
  refine call_of [] (c1) (by rfl) (by rfl) ?_
  conv => whnf
  refine call_of [] (c2) (by rfl) (by rfl) ?_
  conv => whnf
  refine call_of [] (c_types_120) (by rfl) (by rfl) ?_
  conv => whnf
  refine call_of [] (c_bits_120) (by rfl) (by rfl) ?_
  conv => whnf
  refine ⟨by decide, ?_⟩
  conv => whnf
  refine call_of [] (c_ans_120) (by rfl) (by rfl) ?_
  conv => whnf
  refine ⟨by decide, ?_⟩
  conv => whnf
  exact end_of [] (by rfl) (by rfl) (by rfl) (by exact ⟨rfl, rfl⟩)

theorem r_121 : refL 121 = n_clz := by kernel_rfl
theorem f_121 : F2 121 n_clz true := by
  have := c_find 121
  rw [show findL 121 GS = (n_clz, true) by kernel_rfl] at this
  exact this

set_option maxRecDepth 100000 in
theorem c_bits_121 : SpecD S 22 [.int .i64 121] [] (.int .i64 64) [] := by
  have c := c_refName 121
  rw [r_121] at c
  refine specE ok sh22 rfl ?_
  conv => whnf
  refine call_of [] (c) (by rfl) (by rfl) ?_
  conv => whnf
  exact end_of [] (by rfl) (by rfl) (by rfl) (by exact ⟨rfl, rfl⟩)

set_option maxRecDepth 100000 in
theorem c_test_121 : SpecD S 30 [.int .i64 121] [] (.bool false) [] := by
  refine specE ok sh30 rfl ?_
  conv => whnf
  exact end_of [] (by rfl) (by rfl) (by rfl) (by exact ⟨rfl, rfl⟩)

set_option maxRecDepth 100000 in
theorem c_ans_121 : SpecD S 23 [.int .i64 121] [] (.int .i64 64) [] := by
  refine specE ok sh23 rfl ?_
  conv => whnf
  refine call_of [] (c_test_121) (by rfl) (by rfl) ?_
  conv => whnf
  refine call_of [] (c_bits_121) (by rfl) (by rfl) ?_
  conv => whnf
  exact end_of [] (by rfl) (by rfl) (by rfl) (by exact ⟨rfl, rfl⟩)

set_option maxRecDepth 100000 in
theorem c_types_121 : SpecD S 21 [.int .i64 121] [] (.tup [.int .i64 2, .int .i64 2, .int .i64 0]) [] := by
  refine specE ok sh21 rfl ?_
  conv => whnf
  refine call_of [] (f_121) (by rfl) (by rfl) ?_
  conv => whnf
  exact end_of [] (by rfl) (by rfl) (by rfl) (by exact ⟨rfl, rfl⟩)

set_option maxRecDepth 100000 in
theorem c_knows_121 : SpecD S 7 [.int .i64 121] [] (.bool true) [] := by
  have c1 := c_Name 121
  have c2 := c_refName 121
  rw [r_121] at c1 c2
  refine specE ok sh7 rfl ?_
  conv => whnf
  refine call_of [] (c_ary_clz 121 r_121) (by rfl) (by rfl) ?_
  conv => whnf
  refine call_of [] (c_rar_clz 121 r_121) (by rfl) (by rfl) ?_
  conv => whnf
  refine call_of [] (c1) (by rfl) (by rfl) ?_
  conv => whnf
  refine call_of [] (c2) (by rfl) (by rfl) ?_
  conv => whnf
  refine call_of [] (c_types_121) (by rfl) (by rfl) ?_
  conv => whnf
  refine call_of [] (c_bits_121) (by rfl) (by rfl) ?_
  conv => whnf
  refine ⟨by decide, ?_⟩
  conv => whnf
  refine call_of [] (c_ans_121) (by rfl) (by rfl) ?_
  conv => whnf
  refine ⟨by decide, ?_⟩
  conv => whnf
  exact end_of [] (by rfl) (by rfl) (by rfl) (by exact ⟨rfl, rfl⟩)

theorem r_122 : refL 122 = n_ctz := by kernel_rfl
theorem f_122 : F2 122 n_ctz true := by
  have := c_find 122
  rw [show findL 122 GS = (n_ctz, true) by kernel_rfl] at this
  exact this

set_option maxRecDepth 100000 in
theorem c_bits_122 : SpecD S 22 [.int .i64 122] [] (.int .i64 64) [] := by
  have c := c_refName 122
  rw [r_122] at c
  refine specE ok sh22 rfl ?_
  conv => whnf
  refine call_of [] (c) (by rfl) (by rfl) ?_
  conv => whnf
  exact end_of [] (by rfl) (by rfl) (by rfl) (by exact ⟨rfl, rfl⟩)

set_option maxRecDepth 100000 in
theorem c_test_122 : SpecD S 30 [.int .i64 122] [] (.bool false) [] := by
  refine specE ok sh30 rfl ?_
  conv => whnf
  exact end_of [] (by rfl) (by rfl) (by rfl) (by exact ⟨rfl, rfl⟩)

set_option maxRecDepth 100000 in
theorem c_ans_122 : SpecD S 23 [.int .i64 122] [] (.int .i64 64) [] := by
  refine specE ok sh23 rfl ?_
  conv => whnf
  refine call_of [] (c_test_122) (by rfl) (by rfl) ?_
  conv => whnf
  refine call_of [] (c_bits_122) (by rfl) (by rfl) ?_
  conv => whnf
  exact end_of [] (by rfl) (by rfl) (by rfl) (by exact ⟨rfl, rfl⟩)

set_option maxRecDepth 100000 in
theorem c_types_122 : SpecD S 21 [.int .i64 122] [] (.tup [.int .i64 2, .int .i64 2, .int .i64 0]) [] := by
  refine specE ok sh21 rfl ?_
  conv => whnf
  refine call_of [] (f_122) (by rfl) (by rfl) ?_
  conv => whnf
  exact end_of [] (by rfl) (by rfl) (by rfl) (by exact ⟨rfl, rfl⟩)

set_option maxRecDepth 100000 in
theorem c_knows_122 : SpecD S 7 [.int .i64 122] [] (.bool true) [] := by
  have c1 := c_Name 122
  have c2 := c_refName 122
  rw [r_122] at c1 c2
  refine specE ok sh7 rfl ?_
  conv => whnf
  refine call_of [] (c_ary_ctz 122 r_122) (by rfl) (by rfl) ?_
  conv => whnf
  refine call_of [] (c_rar_ctz 122 r_122) (by rfl) (by rfl) ?_
  conv => whnf
  refine call_of [] (c1) (by rfl) (by rfl) ?_
  conv => whnf
  refine call_of [] (c2) (by rfl) (by rfl) ?_
  conv => whnf
  refine call_of [] (c_types_122) (by rfl) (by rfl) ?_
  conv => whnf
  refine call_of [] (c_bits_122) (by rfl) (by rfl) ?_
  conv => whnf
  refine ⟨by decide, ?_⟩
  conv => whnf
  refine call_of [] (c_ans_122) (by rfl) (by rfl) ?_
  conv => whnf
  refine ⟨by decide, ?_⟩
  conv => whnf
  exact end_of [] (by rfl) (by rfl) (by rfl) (by exact ⟨rfl, rfl⟩)

theorem r_123 : refL 123 = n_popcnt := by kernel_rfl
theorem f_123 : F2 123 n_popcnt true := by
  have := c_find 123
  rw [show findL 123 GS = (n_popcnt, true) by kernel_rfl] at this
  exact this

set_option maxRecDepth 100000 in
theorem c_bits_123 : SpecD S 22 [.int .i64 123] [] (.int .i64 64) [] := by
  have c := c_refName 123
  rw [r_123] at c
  refine specE ok sh22 rfl ?_
  conv => whnf
  refine call_of [] (c) (by rfl) (by rfl) ?_
  conv => whnf
  exact end_of [] (by rfl) (by rfl) (by rfl) (by exact ⟨rfl, rfl⟩)

set_option maxRecDepth 100000 in
theorem c_test_123 : SpecD S 30 [.int .i64 123] [] (.bool false) [] := by
  refine specE ok sh30 rfl ?_
  conv => whnf
  exact end_of [] (by rfl) (by rfl) (by rfl) (by exact ⟨rfl, rfl⟩)

set_option maxRecDepth 100000 in
theorem c_ans_123 : SpecD S 23 [.int .i64 123] [] (.int .i64 64) [] := by
  refine specE ok sh23 rfl ?_
  conv => whnf
  refine call_of [] (c_test_123) (by rfl) (by rfl) ?_
  conv => whnf
  refine call_of [] (c_bits_123) (by rfl) (by rfl) ?_
  conv => whnf
  exact end_of [] (by rfl) (by rfl) (by rfl) (by exact ⟨rfl, rfl⟩)

set_option maxRecDepth 100000 in
theorem c_types_123 : SpecD S 21 [.int .i64 123] [] (.tup [.int .i64 2, .int .i64 2, .int .i64 0]) [] := by
  refine specE ok sh21 rfl ?_
  conv => whnf
  refine call_of [] (f_123) (by rfl) (by rfl) ?_
  conv => whnf
  exact end_of [] (by rfl) (by rfl) (by rfl) (by exact ⟨rfl, rfl⟩)

set_option maxRecDepth 100000 in
theorem c_knows_123 : SpecD S 7 [.int .i64 123] [] (.bool true) [] := by
  have c1 := c_Name 123
  have c2 := c_refName 123
  rw [r_123] at c1 c2
  refine specE ok sh7 rfl ?_
  conv => whnf
  refine call_of [] (c_ary_popcnt 123 r_123) (by rfl) (by rfl) ?_
  conv => whnf
  refine call_of [] (c_rar_popcnt 123 r_123) (by rfl) (by rfl) ?_
  conv => whnf
  refine call_of [] (c1) (by rfl) (by rfl) ?_
  conv => whnf
  refine call_of [] (c2) (by rfl) (by rfl) ?_
  conv => whnf
  refine call_of [] (c_types_123) (by rfl) (by rfl) ?_
  conv => whnf
  refine call_of [] (c_bits_123) (by rfl) (by rfl) ?_
  conv => whnf
  refine ⟨by decide, ?_⟩
  conv => whnf
  refine call_of [] (c_ans_123) (by rfl) (by rfl) ?_
  conv => whnf
  refine ⟨by decide, ?_⟩
  conv => whnf
  exact end_of [] (by rfl) (by rfl) (by rfl) (by exact ⟨rfl, rfl⟩)

theorem r_124 : refL 124 = n_add := by kernel_rfl
theorem f_124 : F2 124 n_add true := by
  have := c_find 124
  rw [show findL 124 GS = (n_add, true) by kernel_rfl] at this
  exact this

set_option maxRecDepth 100000 in
theorem c_bits_124 : SpecD S 22 [.int .i64 124] [] (.int .i64 64) [] := by
  have c := c_refName 124
  rw [r_124] at c
  refine specE ok sh22 rfl ?_
  conv => whnf
  refine call_of [] (c) (by rfl) (by rfl) ?_
  conv => whnf
  exact end_of [] (by rfl) (by rfl) (by rfl) (by exact ⟨rfl, rfl⟩)

set_option maxRecDepth 100000 in
theorem c_test_124 : SpecD S 30 [.int .i64 124] [] (.bool false) [] := by
  refine specE ok sh30 rfl ?_
  conv => whnf
  exact end_of [] (by rfl) (by rfl) (by rfl) (by exact ⟨rfl, rfl⟩)

set_option maxRecDepth 100000 in
theorem c_ans_124 : SpecD S 23 [.int .i64 124] [] (.int .i64 64) [] := by
  refine specE ok sh23 rfl ?_
  conv => whnf
  refine call_of [] (c_test_124) (by rfl) (by rfl) ?_
  conv => whnf
  refine call_of [] (c_bits_124) (by rfl) (by rfl) ?_
  conv => whnf
  exact end_of [] (by rfl) (by rfl) (by rfl) (by exact ⟨rfl, rfl⟩)

set_option maxRecDepth 100000 in
theorem c_types_124 : SpecD S 21 [.int .i64 124] [] (.tup [.int .i64 2, .int .i64 2, .int .i64 0]) [] := by
  refine specE ok sh21 rfl ?_
  conv => whnf
  refine call_of [] (f_124) (by rfl) (by rfl) ?_
  conv => whnf
  exact end_of [] (by rfl) (by rfl) (by rfl) (by exact ⟨rfl, rfl⟩)

set_option maxRecDepth 100000 in
theorem c_knows_124 : SpecD S 7 [.int .i64 124] [] (.bool true) [] := by
  have c1 := c_Name 124
  have c2 := c_refName 124
  rw [r_124] at c1 c2
  refine specE ok sh7 rfl ?_
  conv => whnf
  refine call_of [] (c_ary_add 124 r_124) (by rfl) (by rfl) ?_
  conv => whnf
  refine call_of [] (c_rar_add 124 r_124) (by rfl) (by rfl) ?_
  conv => whnf
  refine call_of [] (c1) (by rfl) (by rfl) ?_
  conv => whnf
  refine call_of [] (c2) (by rfl) (by rfl) ?_
  conv => whnf
  refine call_of [] (c_types_124) (by rfl) (by rfl) ?_
  conv => whnf
  refine call_of [] (c_bits_124) (by rfl) (by rfl) ?_
  conv => whnf
  refine ⟨by decide, ?_⟩
  conv => whnf
  refine call_of [] (c_ans_124) (by rfl) (by rfl) ?_
  conv => whnf
  refine ⟨by decide, ?_⟩
  conv => whnf
  exact end_of [] (by rfl) (by rfl) (by rfl) (by exact ⟨rfl, rfl⟩)

theorem r_125 : refL 125 = n_sub := by kernel_rfl
theorem f_125 : F2 125 n_sub true := by
  have := c_find 125
  rw [show findL 125 GS = (n_sub, true) by kernel_rfl] at this
  exact this

set_option maxRecDepth 100000 in
theorem c_bits_125 : SpecD S 22 [.int .i64 125] [] (.int .i64 64) [] := by
  have c := c_refName 125
  rw [r_125] at c
  refine specE ok sh22 rfl ?_
  conv => whnf
  refine call_of [] (c) (by rfl) (by rfl) ?_
  conv => whnf
  exact end_of [] (by rfl) (by rfl) (by rfl) (by exact ⟨rfl, rfl⟩)

set_option maxRecDepth 100000 in
theorem c_test_125 : SpecD S 30 [.int .i64 125] [] (.bool false) [] := by
  refine specE ok sh30 rfl ?_
  conv => whnf
  exact end_of [] (by rfl) (by rfl) (by rfl) (by exact ⟨rfl, rfl⟩)

set_option maxRecDepth 100000 in
theorem c_ans_125 : SpecD S 23 [.int .i64 125] [] (.int .i64 64) [] := by
  refine specE ok sh23 rfl ?_
  conv => whnf
  refine call_of [] (c_test_125) (by rfl) (by rfl) ?_
  conv => whnf
  refine call_of [] (c_bits_125) (by rfl) (by rfl) ?_
  conv => whnf
  exact end_of [] (by rfl) (by rfl) (by rfl) (by exact ⟨rfl, rfl⟩)

set_option maxRecDepth 100000 in
theorem c_types_125 : SpecD S 21 [.int .i64 125] [] (.tup [.int .i64 2, .int .i64 2, .int .i64 0]) [] := by
  refine specE ok sh21 rfl ?_
  conv => whnf
  refine call_of [] (f_125) (by rfl) (by rfl) ?_
  conv => whnf
  exact end_of [] (by rfl) (by rfl) (by rfl) (by exact ⟨rfl, rfl⟩)

set_option maxRecDepth 100000 in
theorem c_knows_125 : SpecD S 7 [.int .i64 125] [] (.bool true) [] := by
  have c1 := c_Name 125
  have c2 := c_refName 125
  rw [r_125] at c1 c2
  refine specE ok sh7 rfl ?_
  conv => whnf
  refine call_of [] (c_ary_sub 125 r_125) (by rfl) (by rfl) ?_
  conv => whnf
  refine call_of [] (c_rar_sub 125 r_125) (by rfl) (by rfl) ?_
  conv => whnf
  refine call_of [] (c1) (by rfl) (by rfl) ?_
  conv => whnf
  refine call_of [] (c2) (by rfl) (by rfl) ?_
  conv => whnf
  refine call_of [] (c_types_125) (by rfl) (by rfl) ?_
  conv => whnf
  refine call_of [] (c_bits_125) (by rfl) (by rfl) ?_
  conv => whnf
  refine ⟨by decide, ?_⟩
  conv => whnf
  refine call_of [] (c_ans_125) (by rfl) (by rfl) ?_
  conv => whnf
  refine ⟨by decide, ?_⟩
  conv => whnf
  exact end_of [] (by rfl) (by rfl) (by rfl) (by exact ⟨rfl, rfl⟩)

theorem r_126 : refL 126 = n_mul := by kernel_rfl
theorem f_126 : F2 126 n_mul true := by
  have := c_find 126
  rw [show findL 126 GS = (n_mul, true) by kernel_rfl] at this
  exact this

set_option maxRecDepth 100000 in
theorem c_bits_126 : SpecD S 22 [.int .i64 126] [] (.int .i64 64) [] := by
  have c := c_refName 126
  rw [r_126] at c
  refine specE ok sh22 rfl ?_
  conv => whnf
  refine call_of [] (c) (by rfl) (by rfl) ?_
  conv => whnf
  exact end_of [] (by rfl) (by rfl) (by rfl) (by exact ⟨rfl, rfl⟩)

set_option maxRecDepth 100000 in
theorem c_test_126 : SpecD S 30 [.int .i64 126] [] (.bool false) [] := by
  refine specE ok sh30 rfl ?_
  conv => whnf
  exact end_of [] (by rfl) (by rfl) (by rfl) (by exact ⟨rfl, rfl⟩)

set_option maxRecDepth 100000 in
theorem c_ans_126 : SpecD S 23 [.int .i64 126] [] (.int .i64 64) [] := by
  refine specE ok sh23 rfl ?_
  conv => whnf
  refine call_of [] (c_test_126) (by rfl) (by rfl) ?_
  conv => whnf
  refine call_of [] (c_bits_126) (by rfl) (by rfl) ?_
  conv => whnf
  exact end_of [] (by rfl) (by rfl) (by rfl) (by exact ⟨rfl, rfl⟩)

set_option maxRecDepth 100000 in
theorem c_types_126 : SpecD S 21 [.int .i64 126] [] (.tup [.int .i64 2, .int .i64 2, .int .i64 0]) [] := by
  refine specE ok sh21 rfl ?_
  conv => whnf
  refine call_of [] (f_126) (by rfl) (by rfl) ?_
  conv => whnf
  exact end_of [] (by rfl) (by rfl) (by rfl) (by exact ⟨rfl, rfl⟩)

set_option maxRecDepth 100000 in
theorem c_knows_126 : SpecD S 7 [.int .i64 126] [] (.bool true) [] := by
  have c1 := c_Name 126
  have c2 := c_refName 126
  rw [r_126] at c1 c2
  refine specE ok sh7 rfl ?_
  conv => whnf
  refine call_of [] (c_ary_mul 126 r_126) (by rfl) (by rfl) ?_
  conv => whnf
  refine call_of [] (c_rar_mul 126 r_126) (by rfl) (by rfl) ?_
  conv => whnf
  refine call_of [] (c1) (by rfl) (by rfl) ?_
  conv => whnf
  refine call_of [] (c2) (by rfl) (by rfl) ?_
  conv => whnf
  refine call_of [] (c_types_126) (by rfl) (by rfl) ?_
  conv => whnf
  refine call_of [] (c_bits_126) (by rfl) (by rfl) ?_
  conv => whnf
  refine ⟨by decide, ?_⟩
  conv => whnf
  refine call_of [] (c_ans_126) (by rfl) (by rfl) ?_
  conv => whnf
  refine ⟨by decide, ?_⟩
  conv => whnf
  exact end_of [] (by rfl) (by rfl) (by rfl) (by exact ⟨rfl, rfl⟩)

theorem r_127 : refL 127 = n_div_s := by kernel_rfl
theorem f_127 : F2 127 n_div_s true := by
  have := c_find 127
  rw [show findL 127 GS = (n_div_s, true) by kernel_rfl] at this
  exact this

set_option maxRecDepth 100000 in
theorem c_bits_127 : SpecD S 22 [.int .i64 127] [] (.int .i64 64) [] := by
  have c := c_refName 127
  rw [r_127] at c
  refine specE ok sh22 rfl ?_
  conv => whnf
  refine call_of [] (c) (by rfl) (by rfl) ?_
  conv => whnf
  exact end_of [] (by rfl) (by rfl) (by rfl) (by exact ⟨rfl, rfl⟩)

set_option maxRecDepth 100000 in
theorem c_test_127 : SpecD S 30 [.int .i64 127] [] (.bool false) [] := by
  refine specE ok sh30 rfl ?_
  conv => whnf
  exact end_of [] (by rfl) (by rfl) (by rfl) (by exact ⟨rfl, rfl⟩)

set_option maxRecDepth 100000 in
theorem c_ans_127 : SpecD S 23 [.int .i64 127] [] (.int .i64 64) [] := by
  refine specE ok sh23 rfl ?_
  conv => whnf
  refine call_of [] (c_test_127) (by rfl) (by rfl) ?_
  conv => whnf
  refine call_of [] (c_bits_127) (by rfl) (by rfl) ?_
  conv => whnf
  exact end_of [] (by rfl) (by rfl) (by rfl) (by exact ⟨rfl, rfl⟩)

set_option maxRecDepth 100000 in
theorem c_types_127 : SpecD S 21 [.int .i64 127] [] (.tup [.int .i64 2, .int .i64 2, .int .i64 0]) [] := by
  refine specE ok sh21 rfl ?_
  conv => whnf
  refine call_of [] (f_127) (by rfl) (by rfl) ?_
  conv => whnf
  exact end_of [] (by rfl) (by rfl) (by rfl) (by exact ⟨rfl, rfl⟩)

set_option maxRecDepth 100000 in
theorem c_knows_127 : SpecD S 7 [.int .i64 127] [] (.bool true) [] := by
  have c1 := c_Name 127
  have c2 := c_refName 127
  rw [r_127] at c1 c2
  refine specE ok sh7 rfl ?_
  conv => whnf
  refine call_of [] (c_ary_div_s 127 r_127) (by rfl) (by rfl) ?_
  conv => whnf
  refine call_of [] (c_rar_div_s 127 r_127) (by rfl) (by rfl) ?_
  conv => whnf
  refine call_of [] (c1) (by rfl) (by rfl) ?_
  conv => whnf
  refine call_of [] (c2) (by rfl) (by rfl) ?_
  conv => whnf
  refine call_of [] (c_types_127) (by rfl) (by rfl) ?_
  conv => whnf
  refine call_of [] (c_bits_127) (by rfl) (by rfl) ?_
  conv => whnf
  refine ⟨by decide, ?_⟩
  conv => whnf
  refine call_of [] (c_ans_127) (by rfl) (by rfl) ?_
  conv => whnf
  refine ⟨by decide, ?_⟩
  conv => whnf
  exact end_of [] (by rfl) (by rfl) (by rfl) (by exact ⟨rfl, rfl⟩)

theorem r_128 : refL 128 = n_div_u := by kernel_rfl
theorem f_128 : F2 128 n_div_u true := by
  have := c_find 128
  rw [show findL 128 GS = (n_div_u, true) by kernel_rfl] at this
  exact this

set_option maxRecDepth 100000 in
theorem c_bits_128 : SpecD S 22 [.int .i64 128] [] (.int .i64 64) [] := by
  have c := c_refName 128
  rw [r_128] at c
  refine specE ok sh22 rfl ?_
  conv => whnf
  refine call_of [] (c) (by rfl) (by rfl) ?_
  conv => whnf
  exact end_of [] (by rfl) (by rfl) (by rfl) (by exact ⟨rfl, rfl⟩)

set_option maxRecDepth 100000 in
theorem c_test_128 : SpecD S 30 [.int .i64 128] [] (.bool false) [] := by
  refine specE ok sh30 rfl ?_
  conv => whnf
  exact end_of [] (by rfl) (by rfl) (by rfl) (by exact ⟨rfl, rfl⟩)

set_option maxRecDepth 100000 in
theorem c_ans_128 : SpecD S 23 [.int .i64 128] [] (.int .i64 64) [] := by
  refine specE ok sh23 rfl ?_
  conv => whnf
  refine call_of [] (c_test_128) (by rfl) (by rfl) ?_
  conv => whnf
  refine call_of [] (c_bits_128) (by rfl) (by rfl) ?_
  conv => whnf
  exact end_of [] (by rfl) (by rfl) (by rfl) (by exact ⟨rfl, rfl⟩)

set_option maxRecDepth 100000 in
theorem c_types_128 : SpecD S 21 [.int .i64 128] [] (.tup [.int .i64 2, .int .i64 2, .int .i64 0]) [] := by
  refine specE ok sh21 rfl ?_
  conv => whnf
  refine call_of [] (f_128) (by rfl) (by rfl) ?_
  conv => whnf
  exact end_of [] (by rfl) (by rfl) (by rfl) (by exact ⟨rfl, rfl⟩)

set_option maxRecDepth 100000 in
theorem c_knows_128 : SpecD S 7 [.int .i64 128] [] (.bool true) [] := by
  have c1 := c_Name 128
  have c2 := c_refName 128
  rw [r_128] at c1 c2
  refine specE ok sh7 rfl ?_
  conv => whnf
  refine call_of [] (c_ary_div_u 128 r_128) (by rfl) (by rfl) ?_
  conv => whnf
  refine call_of [] (c_rar_div_u 128 r_128) (by rfl) (by rfl) ?_
  conv => whnf
  refine call_of [] (c1) (by rfl) (by rfl) ?_
  conv => whnf
  refine call_of [] (c2) (by rfl) (by rfl) ?_
  conv => whnf
  refine call_of [] (c_types_128) (by rfl) (by rfl) ?_
  conv => whnf
  refine call_of [] (c_bits_128) (by rfl) (by rfl) ?_
  conv => whnf
  refine ⟨by decide, ?_⟩
  conv => whnf
  refine call_of [] (c_ans_128) (by rfl) (by rfl) ?_
  conv => whnf
  refine ⟨by decide, ?_⟩
  conv => whnf
  exact end_of [] (by rfl) (by rfl) (by rfl) (by exact ⟨rfl, rfl⟩)

theorem r_129 : refL 129 = n_rem_s := by kernel_rfl
theorem f_129 : F2 129 n_rem_s true := by
  have := c_find 129
  rw [show findL 129 GS = (n_rem_s, true) by kernel_rfl] at this
  exact this

set_option maxRecDepth 100000 in
theorem c_bits_129 : SpecD S 22 [.int .i64 129] [] (.int .i64 64) [] := by
  have c := c_refName 129
  rw [r_129] at c
  refine specE ok sh22 rfl ?_
  conv => whnf
  refine call_of [] (c) (by rfl) (by rfl) ?_
  conv => whnf
  exact end_of [] (by rfl) (by rfl) (by rfl) (by exact ⟨rfl, rfl⟩)

set_option maxRecDepth 100000 in
theorem c_test_129 : SpecD S 30 [.int .i64 129] [] (.bool false) [] := by
  refine specE ok sh30 rfl ?_
  conv => whnf
  exact end_of [] (by rfl) (by rfl) (by rfl) (by exact ⟨rfl, rfl⟩)

set_option maxRecDepth 100000 in
theorem c_ans_129 : SpecD S 23 [.int .i64 129] [] (.int .i64 64) [] := by
  refine specE ok sh23 rfl ?_
  conv => whnf
  refine call_of [] (c_test_129) (by rfl) (by rfl) ?_
  conv => whnf
  refine call_of [] (c_bits_129) (by rfl) (by rfl) ?_
  conv => whnf
  exact end_of [] (by rfl) (by rfl) (by rfl) (by exact ⟨rfl, rfl⟩)

set_option maxRecDepth 100000 in
theorem c_types_129 : SpecD S 21 [.int .i64 129] [] (.tup [.int .i64 2, .int .i64 2, .int .i64 0]) [] := by
  refine specE ok sh21 rfl ?_
  conv => whnf
  refine call_of [] (f_129) (by rfl) (by rfl) ?_
  conv => whnf
  exact end_of [] (by rfl) (by rfl) (by rfl) (by exact ⟨rfl, rfl⟩)

set_option maxRecDepth 100000 in
theorem c_knows_129 : SpecD S 7 [.int .i64 129] [] (.bool true) [] := by
  have c1 := c_Name 129
  have c2 := c_refName 129
  rw [r_129] at c1 c2
  refine specE ok sh7 rfl ?_
  conv => whnf
  refine call_of [] (c_ary_rem_s 129 r_129) (by rfl) (by rfl) ?_
  conv => whnf
  refine call_of [] (c_rar_rem_s 129 r_129) (by rfl) (by rfl) ?_
  conv => whnf
  refine call_of [] (c1) (by rfl) (by rfl) ?_
  conv => whnf
  refine call_of [] (c2) (by rfl) (by rfl) ?_
  conv => whnf
  refine call_of [] (c_types_129) (by rfl) (by rfl) ?_
  conv => whnf
  refine call_of [] (c_bits_129) (by rfl) (by rfl) ?_
  conv => whnf
  refine ⟨by decide, ?_⟩
  conv => whnf
  refine call_of [] (c_ans_129) (by rfl) (by rfl) ?_
  conv => whnf
  refine ⟨by decide, ?_⟩
  conv => whnf
  exact end_of [] (by rfl) (by rfl) (by rfl) (by exact ⟨rfl, rfl⟩)

theorem r_130 : refL 130 = n_rem_u := by kernel_rfl
theorem f_130 : F2 130 n_rem_u true := by
  have := c_find 130
  rw [show findL 130 GS = (n_rem_u, true) by kernel_rfl] at this
  exact this

set_option maxRecDepth 100000 in
theorem c_bits_130 : SpecD S 22 [.int .i64 130] [] (.int .i64 64) [] := by
  have c := c_refName 130
  rw [r_130] at c
  refine specE ok sh22 rfl ?_
  conv => whnf
  refine call_of [] (c) (by rfl) (by rfl) ?_
  conv => whnf
  exact end_of [] (by rfl) (by rfl) (by rfl) (by exact ⟨rfl, rfl⟩)

set_option maxRecDepth 100000 in
theorem c_test_130 : SpecD S 30 [.int .i64 130] [] (.bool false) [] := by
  refine specE ok sh30 rfl ?_
  conv => whnf
  exact end_of [] (by rfl) (by rfl) (by rfl) (by exact ⟨rfl, rfl⟩)

set_option maxRecDepth 100000 in
theorem c_ans_130 : SpecD S 23 [.int .i64 130] [] (.int .i64 64) [] := by
  refine specE ok sh23 rfl ?_
  conv => whnf
  refine call_of [] (c_test_130) (by rfl) (by rfl) ?_
  conv => whnf
  refine call_of [] (c_bits_130) (by rfl) (by rfl) ?_
  conv => whnf
  exact end_of [] (by rfl) (by rfl) (by rfl) (by exact ⟨rfl, rfl⟩)

set_option maxRecDepth 100000 in
theorem c_types_130 : SpecD S 21 [.int .i64 130] [] (.tup [.int .i64 2, .int .i64 2, .int .i64 0]) [] := by
  refine specE ok sh21 rfl ?_
  conv => whnf
  refine call_of [] (f_130) (by rfl) (by rfl) ?_
  conv => whnf
  exact end_of [] (by rfl) (by rfl) (by rfl) (by exact ⟨rfl, rfl⟩)

set_option maxRecDepth 100000 in
theorem c_knows_130 : SpecD S 7 [.int .i64 130] [] (.bool true) [] := by
  have c1 := c_Name 130
  have c2 := c_refName 130
  rw [r_130] at c1 c2
  refine specE ok sh7 rfl ?_
  conv => whnf
  refine call_of [] (c_ary_rem_u 130 r_130) (by rfl) (by rfl) ?_
  conv => whnf
  refine call_of [] (c_rar_rem_u 130 r_130) (by rfl) (by rfl) ?_
  conv => whnf
  refine call_of [] (c1) (by rfl) (by rfl) ?_
  conv => whnf
  refine call_of [] (c2) (by rfl) (by rfl) ?_
  conv => whnf
  refine call_of [] (c_types_130) (by rfl) (by rfl) ?_
  conv => whnf
  refine call_of [] (c_bits_130) (by rfl) (by rfl) ?_
  conv => whnf
  refine ⟨by decide, ?_⟩
  conv => whnf
  refine call_of [] (c_ans_130) (by rfl) (by rfl) ?_
  conv => whnf
  refine ⟨by decide, ?_⟩
  conv => whnf
  exact end_of [] (by rfl) (by rfl) (by rfl) (by exact ⟨rfl, rfl⟩)

theorem r_131 : refL 131 = n_and := by kernel_rfl
theorem f_131 : F2 131 n_and true := by
  have := c_find 131
  rw [show findL 131 GS = (n_and, true) by kernel_rfl] at this
  exact this

set_option maxRecDepth 100000 in
theorem c_bits_131 : SpecD S 22 [.int .i64 131] [] (.int .i64 64) [] := by
  have c := c_refName 131
  rw [r_131] at c
  refine specE ok sh22 rfl ?_
  conv => whnf
  refine call_of [] (c) (by rfl) (by rfl) ?_
  conv => whnf
  exact end_of [] (by rfl) (by rfl) (by rfl) (by exact ⟨rfl, rfl⟩)

set_option maxRecDepth 100000 in
theorem c_test_131 : SpecD S 30 [.int .i64 131] [] (.bool false) [] := by
  refine specE ok sh30 rfl ?_
  conv => whnf
  exact end_of [] (by rfl) (by rfl) (by rfl) (by exact ⟨rfl, rfl⟩)

set_option maxRecDepth 100000 in
theorem c_ans_131 : SpecD S 23 [.int .i64 131] [] (.int .i64 64) [] := by
  refine specE ok sh23 rfl ?_
  conv => whnf
  refine call_of [] (c_test_131) (by rfl) (by rfl) ?_
  conv => whnf
  refine call_of [] (c_bits_131) (by rfl) (by rfl) ?_
  conv => whnf
  exact end_of [] (by rfl) (by rfl) (by rfl) (by exact ⟨rfl, rfl⟩)

set_option maxRecDepth 100000 in
theorem c_types_131 : SpecD S 21 [.int .i64 131] [] (.tup [.int .i64 2, .int .i64 2, .int .i64 0]) [] := by
  refine specE ok sh21 rfl ?_
  conv => whnf
  refine call_of [] (f_131) (by rfl) (by rfl) ?_
  conv => whnf
  exact end_of [] (by rfl) (by rfl) (by rfl) (by exact ⟨rfl, rfl⟩)

set_option maxRecDepth 100000 in
theorem c_knows_131 : SpecD S 7 [.int .i64 131] [] (.bool true) [] := by
  have c1 := c_Name 131
  have c2 := c_refName 131
  rw [r_131] at c1 c2
  refine specE ok sh7 rfl ?_
  conv => whnf
  refine call_of [] (c_ary_and 131 r_131) (by rfl) (by rfl) ?_
  conv => whnf
  refine call_of [] (c_rar_and 131 r_131) (by rfl) (by rfl) ?_
  conv => whnf
  refine call_of [] (c1) (by rfl) (by rfl) ?_
  conv => whnf
  refine call_of [] (c2) (by rfl) (by rfl) ?_
  conv => whnf
  refine call_of [] (c_types_131) (by rfl) (by rfl) ?_
  conv => whnf
  refine call_of [] (c_bits_131) (by rfl) (by rfl) ?_
  conv => whnf
  refine ⟨by decide, ?_⟩
  conv => whnf
  refine call_of [] (c_ans_131) (by rfl) (by rfl) ?_
  conv => whnf
  refine ⟨by decide, ?_⟩
  conv => whnf
  exact end_of [] (by rfl) (by rfl) (by rfl) (by exact ⟨rfl, rfl⟩)

theorem r_132 : refL 132 = n_or := by kernel_rfl
theorem f_132 : F2 132 n_or true := by
  have := c_find 132
  rw [show findL 132 GS = (n_or, true) by kernel_rfl] at this
  exact this

set_option maxRecDepth 100000 in
theorem c_bits_132 : SpecD S 22 [.int .i64 132] [] (.int .i64 64) [] := by
  have c := c_refName 132
  rw [r_132] at c
  refine specE ok sh22 rfl ?_
  conv => whnf
  refine call_of [] (c) (by rfl) (by rfl) ?_
  conv => whnf
  exact end_of [] (by rfl) (by rfl) (by rfl) (by exact ⟨rfl, rfl⟩)

set_option maxRecDepth 100000 in
theorem c_test_132 : SpecD S 30 [.int .i64 132] [] (.bool false) [] := by
  refine specE ok sh30 rfl ?_
  conv => whnf
  exact end_of [] (by rfl) (by rfl) (by rfl) (by exact ⟨rfl, rfl⟩)

set_option maxRecDepth 100000 in
theorem c_ans_132 : SpecD S 23 [.int .i64 132] [] (.int .i64 64) [] := by
  refine specE ok sh23 rfl ?_
  conv => whnf
  refine call_of [] (c_test_132) (by rfl) (by rfl) ?_
  conv => whnf
  refine call_of [] (c_bits_132) (by rfl) (by rfl) ?_
  conv => whnf
  exact end_of [] (by rfl) (by rfl) (by rfl) (by exact ⟨rfl, rfl⟩)

set_option maxRecDepth 100000 in
theorem c_types_132 : SpecD S 21 [.int .i64 132] [] (.tup [.int .i64 2, .int .i64 2, .int .i64 0]) [] := by
  refine specE ok sh21 rfl ?_
  conv => whnf
  refine call_of [] (f_132) (by rfl) (by rfl) ?_
  conv => whnf
  exact end_of [] (by rfl) (by rfl) (by rfl) (by exact ⟨rfl, rfl⟩)

set_option maxRecDepth 100000 in
theorem c_knows_132 : SpecD S 7 [.int .i64 132] [] (.bool true) [] := by
  have c1 := c_Name 132
  have c2 := c_refName 132
  rw [r_132] at c1 c2
  refine specE ok sh7 rfl ?_
  conv => whnf
  refine call_of [] (c_ary_or 132 r_132) (by rfl) (by rfl) ?_
  conv => whnf
  refine call_of [] (c_rar_or 132 r_132) (by rfl) (by rfl) ?_
  conv => whnf
  refine call_of [] (c1) (by rfl) (by rfl) ?_
  conv => whnf
  refine call_of [] (c2) (by rfl) (by rfl) ?_
  conv => whnf
  refine call_of [] (c_types_132) (by rfl) (by rfl) ?_
  conv => whnf
  refine call_of [] (c_bits_132) (by rfl) (by rfl) ?_
  conv => whnf
  refine ⟨by decide, ?_⟩
  conv => whnf
  refine call_of [] (c_ans_132) (by rfl) (by rfl) ?_
  conv => whnf
  refine ⟨by decide, ?_⟩
  conv => whnf
  exact end_of [] (by rfl) (by rfl) (by rfl) (by exact ⟨rfl, rfl⟩)

theorem r_133 : refL 133 = n_xor := by kernel_rfl
theorem f_133 : F2 133 n_xor true := by
  have := c_find 133
  rw [show findL 133 GS = (n_xor, true) by kernel_rfl] at this
  exact this

set_option maxRecDepth 100000 in
theorem c_bits_133 : SpecD S 22 [.int .i64 133] [] (.int .i64 64) [] := by
  have c := c_refName 133
  rw [r_133] at c
  refine specE ok sh22 rfl ?_
  conv => whnf
  refine call_of [] (c) (by rfl) (by rfl) ?_
  conv => whnf
  exact end_of [] (by rfl) (by rfl) (by rfl) (by exact ⟨rfl, rfl⟩)

set_option maxRecDepth 100000 in
theorem c_test_133 : SpecD S 30 [.int .i64 133] [] (.bool false) [] := by
  refine specE ok sh30 rfl ?_
  conv => whnf
  exact end_of [] (by rfl) (by rfl) (by rfl) (by exact ⟨rfl, rfl⟩)

set_option maxRecDepth 100000 in
theorem c_ans_133 : SpecD S 23 [.int .i64 133] [] (.int .i64 64) [] := by
  refine specE ok sh23 rfl ?_
  conv => whnf
  refine call_of [] (c_test_133) (by rfl) (by rfl) ?_
  conv => whnf
  refine call_of [] (c_bits_133) (by rfl) (by rfl) ?_
  conv => whnf
  exact end_of [] (by rfl) (by rfl) (by rfl) (by exact ⟨rfl, rfl⟩)

set_option maxRecDepth 100000 in
theorem c_types_133 : SpecD S 21 [.int .i64 133] [] (.tup [.int .i64 2, .int .i64 2, .int .i64 0]) [] := by
  refine specE ok sh21 rfl ?_
  conv => whnf
  refine call_of [] (f_133) (by rfl) (by rfl) ?_
  conv => whnf
  exact end_of [] (by rfl) (by rfl) (by rfl) (by exact ⟨rfl, rfl⟩)

set_option maxRecDepth 100000 in
theorem c_knows_133 : SpecD S 7 [.int .i64 133] [] (.bool true) [] := by
  have c1 := c_Name 133
  have c2 := c_refName 133
  rw [r_133] at c1 c2
  refine specE ok sh7 rfl ?_
  conv => whnf
  refine call_of [] (c_ary_xor 133 r_133) (by rfl) (by rfl) ?_
  conv => whnf
  refine call_of [] (c_rar_xor 133 r_133) (by rfl) (by rfl) ?_
  conv => whnf
  refine call_of [] (c1) (by rfl) (by rfl) ?_
  conv => whnf
  refine call_of [] (c2) (by rfl) (by rfl) ?_
  conv => whnf
  refine call_of [] (c_types_133) (by rfl) (by rfl) ?_
  conv => whnf
  refine call_of [] (c_bits_133) (by rfl) (by rfl) ?_
  conv => whnf
  refine ⟨by decide, ?_⟩
  conv => whnf
  refine call_of [] (c_ans_133) (by rfl) (by rfl) ?_
  conv => whnf
  refine ⟨by decide, ?_⟩
  conv => whnf
  exact end_of [] (by rfl) (by rfl) (by rfl) (by exact ⟨rfl, rfl⟩)

theorem r_134 : refL 134 = n_shl := by kernel_rfl
theorem f_134 : F2 134 n_shl true := by
  have := c_find 134
  rw [show findL 134 GS = (n_shl, true) by kernel_rfl] at this
  exact this

set_option maxRecDepth 100000 in
theorem c_bits_134 : SpecD S 22 [.int .i64 134] [] (.int .i64 64) [] := by
  have c := c_refName 134
  rw [r_134] at c
  refine specE ok sh22 rfl ?_
  conv => whnf
  refine call_of [] (c) (by rfl) (by rfl) ?_
  conv => whnf
  exact end_of [] (by rfl) (by rfl) (by rfl) (by exact ⟨rfl, rfl⟩)

set_option maxRecDepth 100000 in
theorem c_test_134 : SpecD S 30 [.int .i64 134] [] (.bool false) [] := by
  refine specE ok sh30 rfl ?_
  conv => whnf
  exact end_of [] (by rfl) (by rfl) (by rfl) (by exact ⟨rfl, rfl⟩)

set_option maxRecDepth 100000 in
theorem c_ans_134 : SpecD S 23 [.int .i64 134] [] (.int .i64 64) [] := by
  refine specE ok sh23 rfl ?_
  conv => whnf
  refine call_of [] (c_test_134) (by rfl) (by rfl) ?_
  conv => whnf
  refine call_of [] (c_bits_134) (by rfl) (by rfl) ?_
  conv => whnf
  exact end_of [] (by rfl) (by rfl) (by rfl) (by exact ⟨rfl, rfl⟩)

set_option maxRecDepth 100000 in
theorem c_types_134 : SpecD S 21 [.int .i64 134] [] (.tup [.int .i64 2, .int .i64 2, .int .i64 0]) [] := by
  refine specE ok sh21 rfl ?_
  conv => whnf
  refine call_of [] (f_134) (by rfl) (by rfl) ?_
  conv => whnf
  exact end_of [] (by rfl) (by rfl) (by rfl) (by exact ⟨rfl, rfl⟩)

set_option maxRecDepth 100000 in
theorem c_knows_134 : SpecD S 7 [.int .i64 134] [] (.bool true) [] := by
  have c1 := c_Name 134
  have c2 := c_refName 134
  rw [r_134] at c1 c2
  refine specE ok sh7 rfl ?_
  conv => whnf
  refine call_of [] (c_ary_shl 134 r_134) (by rfl) (by rfl) ?_
  conv => whnf
  refine call_of [] (c_rar_shl 134 r_134) (by rfl) (by rfl) ?_
  conv => whnf
  refine call_of [] (c1) (by rfl) (by rfl) ?_
  conv => whnf
  refine call_of [] (c2) (by rfl) (by rfl) ?_
  conv => whnf
  refine call_of [] (c_types_134) (by rfl) (by rfl) ?_
  conv => whnf
  refine call_of [] (c_bits_134) (by rfl) (by rfl) ?_
  conv => whnf
  refine ⟨by decide, ?_⟩
  conv => whnf
  refine call_of [] (c_ans_134) (by rfl) (by rfl) ?_
  conv => whnf
  refine ⟨by decide, ?_⟩
  conv => whnf
  exact end_of [] (by rfl) (by rfl) (by rfl) (by exact ⟨rfl, rfl⟩)

theorem r_135 : refL 135 = n_shr_s := by kernel_rfl
theorem f_135 : F2 135 n_shr_s true := by
  have := c_find 135
  rw [show findL 135 GS = (n_shr_s, true) by kernel_rfl] at this
  exact this

set_option maxRecDepth 100000 in
theorem c_bits_135 : SpecD S 22 [.int .i64 135] [] (.int .i64 64) [] := by
  have c := c_refName 135
  rw [r_135] at c
  refine specE ok sh22 rfl ?_
  conv => whnf
  refine call_of [] (c) (by rfl) (by rfl) ?_
  conv => whnf
  exact end_of [] (by rfl) (by rfl) (by rfl) (by exact ⟨rfl, rfl⟩)

set_option maxRecDepth 100000 in
theorem c_test_135 : SpecD S 30 [.int .i64 135] [] (.bool false) [] := by
  refine specE ok sh30 rfl ?_
  conv => whnf
  exact end_of [] (by rfl) (by rfl) (by rfl) (by exact ⟨rfl, rfl⟩)

set_option maxRecDepth 100000 in
theorem c_ans_135 : SpecD S 23 [.int .i64 135] [] (.int .i64 64) [] := by
  refine specE ok sh23 rfl ?_
  conv => whnf
  refine call_of [] (c_test_135) (by rfl) (by rfl) ?_
  conv => whnf
  refine call_of [] (c_bits_135) (by rfl) (by rfl) ?_
  conv => whnf
  exact end_of [] (by rfl) (by rfl) (by rfl) (by exact ⟨rfl, rfl⟩)

set_option maxRecDepth 100000 in
theorem c_types_135 : SpecD S 21 [.int .i64 135] [] (.tup [.int .i64 2, .int .i64 2, .int .i64 0]) [] := by
  refine specE ok sh21 rfl ?_
  conv => whnf
  refine call_of [] (f_135) (by rfl) (by rfl) ?_
  conv => whnf
  exact end_of [] (by rfl) (by rfl) (by rfl) (by exact ⟨rfl, rfl⟩)

set_option maxRecDepth 100000 in
theorem c_knows_135 : SpecD S 7 [.int .i64 135] [] (.bool true) [] := by
  have c1 := c_Name 135
  have c2 := c_refName 135
  rw [r_135] at c1 c2
  refine specE ok sh7 rfl ?_
  conv => whnf
  refine call_of [] (c_ary_shr_s 135 r_135) (by rfl) (by rfl) ?_
  conv => whnf
  refine call_of [] (c_rar_shr_s 135 r_135) (by rfl) (by rfl) ?_
  conv => whnf
  refine call_of [] (c1) (by rfl) (by rfl) ?_
  conv => whnf
  refine call_of [] (c2) (by rfl) (by rfl) ?_
  conv => whnf
  refine call_of [] (c_types_135) (by rfl) (by rfl) ?_
  conv => whnf
  refine call_of [] (c_bits_135) (by rfl) (by rfl) ?_
  conv => whnf
  refine ⟨by decide, ?_⟩
  conv => whnf
  refine call_of [] (c_ans_135) (by rfl) (by rfl) ?_
  conv => whnf
  refine ⟨by decide, ?_⟩
  conv => whnf
  exact end_of [] (by rfl) (by rfl) (by rfl) (by exact ⟨rfl, rfl⟩)

theorem r_136 : refL 136 = n_shr_u := by kernel_rfl
theorem f_136 : F2 136 n_shr_u true := by
  have := c_find 136
  rw [show findL 136 GS = (n_shr_u, true) by kernel_rfl] at this
  exact this

set_option maxRecDepth 100000 in
theorem c_bits_136 : SpecD S 22 [.int .i64 136] [] (.int .i64 64) [] := by
  have c := c_refName 136
  rw [r_136] at c
  refine specE ok sh22 rfl ?_
  conv => whnf
  refine call_of [] (c) (by rfl) (by rfl) ?_
  conv => whnf
  exact end_of [] (by rfl) (by rfl) (by rfl) (by exact ⟨rfl, rfl⟩)

set_option maxRecDepth 100000 in
theorem c_test_136 : SpecD S 30 [.int .i64 136] [] (.bool false) [] := by
  refine specE ok sh30 rfl ?_
  conv => whnf
  exact end_of [] (by rfl) (by rfl) (by rfl) (by exact ⟨rfl, rfl⟩)

set_option maxRecDepth 100000 in
theorem c_ans_136 : SpecD S 23 [.int .i64 136] [] (.int .i64 64) [] := by
  refine specE ok sh23 rfl ?_
  conv => whnf
  refine call_of [] (c_test_136) (by rfl) (by rfl) ?_
  conv => whnf
  refine call_of [] (c_bits_136) (by rfl) (by rfl) ?_
  conv => whnf
  exact end_of [] (by rfl) (by rfl) (by rfl) (by exact ⟨rfl, rfl⟩)

set_option maxRecDepth 100000 in
theorem c_types_136 : SpecD S 21 [.int .i64 136] [] (.tup [.int .i64 2, .int .i64 2, .int .i64 0]) [] := by
  refine specE ok sh21 rfl ?_
  conv => whnf
  refine call_of [] (f_136) (by rfl) (by rfl) ?_
  conv => whnf
  exact end_of [] (by rfl) (by rfl) (by rfl) (by exact ⟨rfl, rfl⟩)

set_option maxRecDepth 100000 in
theorem c_knows_136 : SpecD S 7 [.int .i64 136] [] (.bool true) [] := by
  have c1 := c_Name 136
  have c2 := c_refName 136
  rw [r_136] at c1 c2
  refine specE ok sh7 rfl ?_
  conv => whnf
  refine call_of [] (c_ary_shr_u 136 r_136) (by rfl) (by rfl) ?_
  conv => whnf
  refine call_of [] (c_rar_shr_u 136 r_136) (by rfl) (by rfl) ?_
  conv => whnf
  refine call_of [] (c1) (by rfl) (by rfl) ?_
  conv => whnf
  refine call_of [] (c2) (by rfl) (by rfl) ?_
  conv => whnf
  refine call_of [] (c_types_136) (by rfl) (by rfl) ?_
  conv => whnf
  refine call_of [] (c_bits_136) (by rfl) (by rfl) ?_
  conv => whnf
  refine ⟨by decide, ?_⟩
  conv => whnf
  refine call_of [] (c_ans_136) (by rfl) (by rfl) ?_
  conv => whnf
  refine ⟨by decide, ?_⟩
  conv => whnf
  exact end_of [] (by rfl) (by rfl) (by rfl) (by exact ⟨rfl, rfl⟩)

theorem r_137 : refL 137 = n_rotl := by kernel_rfl
theorem f_137 : F2 137 n_rotl true := by
  have := c_find 137
  rw [show findL 137 GS = (n_rotl, true) by kernel_rfl] at this
  exact this

set_option maxRecDepth 100000 in
theorem c_bits_137 : SpecD S 22 [.int .i64 137] [] (.int .i64 64) [] := by
  have c := c_refName 137
  rw [r_137] at c
  refine specE ok sh22 rfl ?_
  conv => whnf
  refine call_of [] (c) (by rfl) (by rfl) ?_
  conv => whnf
  exact end_of [] (by rfl) (by rfl) (by rfl) (by exact ⟨rfl, rfl⟩)

set_option maxRecDepth 100000 in
theorem c_test_137 : SpecD S 30 [.int .i64 137] [] (.bool false) [] := by
  refine specE ok sh30 rfl ?_
  conv => whnf
  exact end_of [] (by rfl) (by rfl) (by rfl) (by exact ⟨rfl, rfl⟩)

set_option maxRecDepth 100000 in
theorem c_ans_137 : SpecD S 23 [.int .i64 137] [] (.int .i64 64) [] := by
  refine specE ok sh23 rfl ?_
  conv => whnf
  refine call_of [] (c_test_137) (by rfl) (by rfl) ?_
  conv => whnf
  refine call_of [] (c_bits_137) (by rfl) (by rfl) ?_
  conv => whnf
  exact end_of [] (by rfl) (by rfl) (by rfl) (by exact ⟨rfl, rfl⟩)

set_option maxRecDepth 100000 in
theorem c_types_137 : SpecD S 21 [.int .i64 137] [] (.tup [.int .i64 2, .int .i64 2, .int .i64 0]) [] := by
  refine specE ok sh21 rfl ?_
  conv => whnf
  refine call_of [] (f_137) (by rfl) (by rfl) ?_
  conv => whnf
  exact end_of [] (by rfl) (by rfl) (by rfl) (by exact ⟨rfl, rfl⟩)

set_option maxRecDepth 100000 in
theorem c_knows_137 : SpecD S 7 [.int .i64 137] [] (.bool true) [] := by
  have c1 := c_Name 137
  have c2 := c_refName 137
  rw [r_137] at c1 c2
  refine specE ok sh7 rfl ?_
  conv => whnf
  refine call_of [] (c_ary_rotl 137 r_137) (by rfl) (by rfl) ?_
  conv => whnf
  refine call_of [] (c_rar_rotl 137 r_137) (by rfl) (by rfl) ?_
  conv => whnf
  refine call_of [] (c1) (by rfl) (by rfl) ?_
  conv => whnf
  refine call_of [] (c2) (by rfl) (by rfl) ?_
  conv => whnf
  refine call_of [] (c_types_137) (by rfl) (by rfl) ?_
  conv => whnf
  refine call_of [] (c_bits_137) (by rfl) (by rfl) ?_
  conv => whnf
  refine ⟨by decide, ?_⟩
  conv => whnf
  refine call_of [] (c_ans_137) (by rfl) (by rfl) ?_
  conv => whnf
  refine ⟨by decide, ?_⟩
  conv => whnf
  exact end_of [] (by rfl) (by rfl) (by rfl) (by exact ⟨rfl, rfl⟩)

theorem r_138 : refL 138 = n_rotr := by kernel_rfl
theorem f_138 : F2 138 n_rotr true := by
  have := c_find 138
  rw [show findL 138 GS = (n_rotr, true) by kernel_rfl] at this
  exact this

set_option maxRecDepth 100000 in
theorem c_bits_138 : SpecD S 22 [.int .i64 138] [] (.int .i64 64) [] := by
  have c := c_refName 138
  rw [r_138] at c
  refine specE ok sh22 rfl ?_
  conv => whnf
  refine call_of [] (c) (by rfl) (by rfl) ?_
  conv => whnf
  exact end_of [] (by rfl) (by rfl) (by rfl) (by exact ⟨rfl, rfl⟩)

set_option maxRecDepth 100000 in
theorem c_test_138 : SpecD S 30 [.int .i64 138] [] (.bool false) [] := by
  refine specE ok sh30 rfl ?_
  conv => whnf
  exact end_of [] (by rfl) (by rfl) (by rfl) (by exact ⟨rfl, rfl⟩)

set_option maxRecDepth 100000 in
theorem c_ans_138 : SpecD S 23 [.int .i64 138] [] (.int .i64 64) [] := by
  refine specE ok sh23 rfl ?_
  conv => whnf
  refine call_of [] (c_test_138) (by rfl) (by rfl) ?_
  conv => whnf
  refine call_of [] (c_bits_138) (by rfl) (by rfl) ?_
  conv => whnf
  exact end_of [] (by rfl) (by rfl) (by rfl) (by exact ⟨rfl, rfl⟩)

set_option maxRecDepth 100000 in
theorem c_types_138 : SpecD S 21 [.int .i64 138] [] (.tup [.int .i64 2, .int .i64 2, .int .i64 0]) [] := by
  refine specE ok sh21 rfl ?_
  conv => whnf
  refine call_of [] (f_138) (by rfl) (by rfl) ?_
  conv => whnf
  exact end_of [] (by rfl) (by rfl) (by rfl) (by exact ⟨rfl, rfl⟩)

set_option maxRecDepth 100000 in
theorem c_knows_138 : SpecD S 7 [.int .i64 138] [] (.bool true) [] := by
  have c1 := c_Name 138
  have c2 := c_refName 138
  rw [r_138] at c1 c2
  refine specE ok sh7 rfl ?_
  conv => whnf
  refine call_of [] (c_ary_rotr 138 r_138) (by rfl) (by rfl) ?_
  conv => whnf
  refine call_of [] (c_rar_rotr 138 r_138) (by rfl) (by rfl) ?_
  conv => whnf
  refine call_of [] (c1) (by rfl) (by rfl) ?_
  conv => whnf
  refine call_of [] (c2) (by rfl) (by rfl) ?_
  conv => whnf
  refine call_of [] (c_types_138) (by rfl) (by rfl) ?_
  conv => whnf
  refine call_of [] (c_bits_138) (by rfl) (by rfl) ?_
  conv => whnf
  refine ⟨by decide, ?_⟩
  conv => whnf
  refine call_of [] (c_ans_138) (by rfl) (by rfl) ?_
  conv => whnf
  refine ⟨by decide, ?_⟩
  conv => whnf
  exact end_of [] (by rfl) (by rfl) (by rfl) (by exact ⟨rfl, rfl⟩)

theorem r_167 : refL 167 = n_wrap_i64 := by kernel_rfl
theorem f_167 : F2 167 n_wrap_i64 true := by
  have := c_find 167
  rw [show findL 167 GS = (n_wrap_i64, true) by kernel_rfl] at this
  exact this

set_option maxRecDepth 100000 in
theorem c_bits_167 : SpecD S 22 [.int .i64 167] [] (.int .i64 64) [] := by
  have c := c_refName 167
  rw [r_167] at c
  refine specE ok sh22 rfl ?_
  conv => whnf
  refine call_of [] (c) (by rfl) (by rfl) ?_
  conv => whnf
  exact end_of [] (by rfl) (by rfl) (by rfl) (by exact ⟨rfl, rfl⟩)

set_option maxRecDepth 100000 in
theorem c_test_167 : SpecD S 30 [.int .i64 167] [] (.bool false) [] := by
  refine specE ok sh30 rfl ?_
  conv => whnf
  exact end_of [] (by rfl) (by rfl) (by rfl) (by exact ⟨rfl, rfl⟩)

set_option maxRecDepth 100000 in
theorem c_ans_167 : SpecD S 23 [.int .i64 167] [] (.int .i64 32) [] := by
  refine specE ok sh23 rfl ?_
  conv => whnf
  refine call_of [] (c_test_167) (by rfl) (by rfl) ?_
  conv => whnf
  exact end_of [] (by rfl) (by rfl) (by rfl) (by exact ⟨rfl, rfl⟩)

set_option maxRecDepth 100000 in
theorem c_types_167 : SpecD S 21 [.int .i64 167] [] (.tup [.int .i64 2, .int .i64 1, .int .i64 0]) [] := by
  refine specE ok sh21 rfl ?_
  conv => whnf
  refine call_of [] (f_167) (by rfl) (by rfl) ?_
  conv => whnf
  exact end_of [] (by rfl) (by rfl) (by rfl) (by exact ⟨rfl, rfl⟩)

set_option maxRecDepth 100000 in
theorem c_knows_167 : SpecD S 7 [.int .i64 167] [] (.bool true) [] := by
  have c1 := c_Name 167
  have c2 := c_refName 167
  rw [r_167] at c1 c2
  refine specE ok sh7 rfl ?_
  conv => whnf
  refine call_of [] (c_ary_wrap_i64 167 r_167) (by rfl) (by rfl) ?_
  conv => whnf
  refine call_of [] (c_rar_wrap_i64 167 r_167) (by rfl) (by rfl) ?_
  conv => whnf
  refine call_of [] (c1) (by rfl) (by rfl) ?_
  conv => whnf
  refine call_of [] (c2) (by rfl) (by rfl) ?_
  conv => whnf
  refine call_of [] (c_types_167) (by rfl) (by rfl) ?_
  conv => whnf
  refine call_of [] (c_bits_167) (by rfl) (by rfl) ?_
  conv => whnf
  refine ⟨by decide, ?_⟩
  conv => whnf
  refine call_of [] (c_ans_167) (by rfl) (by rfl) ?_
  conv => whnf
  refine ⟨by decide, ?_⟩
  conv => whnf
  exact end_of [] (by rfl) (by rfl) (by rfl) (by exact ⟨rfl, rfl⟩)

theorem r_172 : refL 172 = n_extend_i32_s := by kernel_rfl
theorem f_172 : F2 172 n_extend_i32_s false := by
  have := c_find 172
  rw [show findL 172 GS = (n_extend_i32_s, false) by kernel_rfl] at this
  exact this

set_option maxRecDepth 100000 in
theorem c_bits_172 : SpecD S 22 [.int .i64 172] [] (.int .i64 32) [] := by
  have c := c_refName 172
  rw [r_172] at c
  refine specE ok sh22 rfl ?_
  conv => whnf
  refine call_of [] (c) (by rfl) (by rfl) ?_
  conv => whnf
  exact end_of [] (by rfl) (by rfl) (by rfl) (by exact ⟨rfl, rfl⟩)

set_option maxRecDepth 100000 in
theorem c_test_172 : SpecD S 30 [.int .i64 172] [] (.bool false) [] := by
  refine specE ok sh30 rfl ?_
  conv => whnf
  exact end_of [] (by rfl) (by rfl) (by rfl) (by exact ⟨rfl, rfl⟩)

set_option maxRecDepth 100000 in
theorem c_ans_172 : SpecD S 23 [.int .i64 172] [] (.int .i64 64) [] := by
  refine specE ok sh23 rfl ?_
  conv => whnf
  refine call_of [] (c_test_172) (by rfl) (by rfl) ?_
  conv => whnf
  exact end_of [] (by rfl) (by rfl) (by rfl) (by exact ⟨rfl, rfl⟩)

set_option maxRecDepth 100000 in
theorem c_types_172 : SpecD S 21 [.int .i64 172] [] (.tup [.int .i64 1, .int .i64 2, .int .i64 0]) [] := by
  refine specE ok sh21 rfl ?_
  conv => whnf
  refine call_of [] (f_172) (by rfl) (by rfl) ?_
  conv => whnf
  exact end_of [] (by rfl) (by rfl) (by rfl) (by exact ⟨rfl, rfl⟩)

set_option maxRecDepth 100000 in
theorem c_knows_172 : SpecD S 7 [.int .i64 172] [] (.bool true) [] := by
  have c1 := c_Name 172
  have c2 := c_refName 172
  rw [r_172] at c1 c2
  refine specE ok sh7 rfl ?_
  conv => whnf
  refine call_of [] (c_ary_extend_i32_s 172 r_172) (by rfl) (by rfl) ?_
  conv => whnf
  refine call_of [] (c_rar_extend_i32_s 172 r_172) (by rfl) (by rfl) ?_
  conv => whnf
  refine call_of [] (c1) (by rfl) (by rfl) ?_
  conv => whnf
  refine call_of [] (c2) (by rfl) (by rfl) ?_
  conv => whnf
  refine call_of [] (c_types_172) (by rfl) (by rfl) ?_
  conv => whnf
  refine call_of [] (c_bits_172) (by rfl) (by rfl) ?_
  conv => whnf
  refine ⟨by decide, ?_⟩
  conv => whnf
  refine call_of [] (c_ans_172) (by rfl) (by rfl) ?_
  conv => whnf
  refine ⟨by decide, ?_⟩
  conv => whnf
  exact end_of [] (by rfl) (by rfl) (by rfl) (by exact ⟨rfl, rfl⟩)

theorem r_173 : refL 173 = n_extend_i32_u := by kernel_rfl
theorem f_173 : F2 173 n_extend_i32_u false := by
  have := c_find 173
  rw [show findL 173 GS = (n_extend_i32_u, false) by kernel_rfl] at this
  exact this

set_option maxRecDepth 100000 in
theorem c_bits_173 : SpecD S 22 [.int .i64 173] [] (.int .i64 32) [] := by
  have c := c_refName 173
  rw [r_173] at c
  refine specE ok sh22 rfl ?_
  conv => whnf
  refine call_of [] (c) (by rfl) (by rfl) ?_
  conv => whnf
  exact end_of [] (by rfl) (by rfl) (by rfl) (by exact ⟨rfl, rfl⟩)

set_option maxRecDepth 100000 in
theorem c_test_173 : SpecD S 30 [.int .i64 173] [] (.bool false) [] := by
  refine specE ok sh30 rfl ?_
  conv => whnf
  exact end_of [] (by rfl) (by rfl) (by rfl) (by exact ⟨rfl, rfl⟩)

set_option maxRecDepth 100000 in
theorem c_ans_173 : SpecD S 23 [.int .i64 173] [] (.int .i64 64) [] := by
  refine specE ok sh23 rfl ?_
  conv => whnf
  refine call_of [] (c_test_173) (by rfl) (by rfl) ?_
  conv => whnf
  exact end_of [] (by rfl) (by rfl) (by rfl) (by exact ⟨rfl, rfl⟩)

set_option maxRecDepth 100000 in
theorem c_types_173 : SpecD S 21 [.int .i64 173] [] (.tup [.int .i64 1, .int .i64 2, .int .i64 0]) [] := by
  refine specE ok sh21 rfl ?_
  conv => whnf
  refine call_of [] (f_173) (by rfl) (by rfl) ?_
  conv => whnf
  exact end_of [] (by rfl) (by rfl) (by rfl) (by exact ⟨rfl, rfl⟩)

set_option maxRecDepth 100000 in
theorem c_knows_173 : SpecD S 7 [.int .i64 173] [] (.bool true) [] := by
  have c1 := c_Name 173
  have c2 := c_refName 173
  rw [r_173] at c1 c2
  refine specE ok sh7 rfl ?_
  conv => whnf
  refine call_of [] (c_ary_extend_i32_u 173 r_173) (by rfl) (by rfl) ?_
  conv => whnf
  refine call_of [] (c_rar_extend_i32_u 173 r_173) (by rfl) (by rfl) ?_
  conv => whnf
  refine call_of [] (c1) (by rfl) (by rfl) ?_
  conv => whnf
  refine call_of [] (c2) (by rfl) (by rfl) ?_
  conv => whnf
  refine call_of [] (c_types_173) (by rfl) (by rfl) ?_
  conv => whnf
  refine call_of [] (c_bits_173) (by rfl) (by rfl) ?_
  conv => whnf
  refine ⟨by decide, ?_⟩
  conv => whnf
  refine call_of [] (c_ans_173) (by rfl) (by rfl) ?_
  conv => whnf
  refine ⟨by decide, ?_⟩
  conv => whnf
  exact end_of [] (by rfl) (by rfl) (by rfl) (by exact ⟨rfl, rfl⟩)

theorem r_192 : refL 192 = n_extend8_s := by kernel_rfl
theorem f_192 : F2 192 n_extend8_s false := by
  have := c_find 192
  rw [show findL 192 GS = (n_extend8_s, false) by kernel_rfl] at this
  exact this

set_option maxRecDepth 100000 in
theorem c_bits_192 : SpecD S 22 [.int .i64 192] [] (.int .i64 32) [] := by
  have c := c_refName 192
  rw [r_192] at c
  refine specE ok sh22 rfl ?_
  conv => whnf
  refine call_of [] (c) (by rfl) (by rfl) ?_
  conv => whnf
  exact end_of [] (by rfl) (by rfl) (by rfl) (by exact ⟨rfl, rfl⟩)

set_option maxRecDepth 100000 in
theorem c_test_192 : SpecD S 30 [.int .i64 192] [] (.bool false) [] := by
  refine specE ok sh30 rfl ?_
  conv => whnf
  exact end_of [] (by rfl) (by rfl) (by rfl) (by exact ⟨rfl, rfl⟩)

set_option maxRecDepth 100000 in
theorem c_ans_192 : SpecD S 23 [.int .i64 192] [] (.int .i64 32) [] := by
  refine specE ok sh23 rfl ?_
  conv => whnf
  refine call_of [] (c_test_192) (by rfl) (by rfl) ?_
  conv => whnf
  refine call_of [] (c_bits_192) (by rfl) (by rfl) ?_
  conv => whnf
  exact end_of [] (by rfl) (by rfl) (by rfl) (by exact ⟨rfl, rfl⟩)

set_option maxRecDepth 100000 in
theorem c_types_192 : SpecD S 21 [.int .i64 192] [] (.tup [.int .i64 1, .int .i64 1, .int .i64 0]) [] := by
  refine specE ok sh21 rfl ?_
  conv => whnf
  refine call_of [] (f_192) (by rfl) (by rfl) ?_
  conv => whnf
  exact end_of [] (by rfl) (by rfl) (by rfl) (by exact ⟨rfl, rfl⟩)

set_option maxRecDepth 100000 in
theorem c_knows_192 : SpecD S 7 [.int .i64 192] [] (.bool true) [] := by
  have c1 := c_Name 192
  have c2 := c_refName 192
  rw [r_192] at c1 c2
  refine specE ok sh7 rfl ?_
  conv => whnf
  refine call_of [] (c_ary_extend8_s 192 r_192) (by rfl) (by rfl) ?_
  conv => whnf
  refine call_of [] (c_rar_extend8_s 192 r_192) (by rfl) (by rfl) ?_
  conv => whnf
  refine call_of [] (c1) (by rfl) (by rfl) ?_
  conv => whnf
  refine call_of [] (c2) (by rfl) (by rfl) ?_
  conv => whnf
  refine call_of [] (c_types_192) (by rfl) (by rfl) ?_
  conv => whnf
  refine call_of [] (c_bits_192) (by rfl) (by rfl) ?_
  conv => whnf
  refine ⟨by decide, ?_⟩
  conv => whnf
  refine call_of [] (c_ans_192) (by rfl) (by rfl) ?_
  conv => whnf
  refine ⟨by decide, ?_⟩
  conv => whnf
  exact end_of [] (by rfl) (by rfl) (by rfl) (by exact ⟨rfl, rfl⟩)

theorem r_193 : refL 193 = n_extend16_s := by kernel_rfl
theorem f_193 : F2 193 n_extend16_s false := by
  have := c_find 193
  rw [show findL 193 GS = (n_extend16_s, false) by kernel_rfl] at this
  exact this

set_option maxRecDepth 100000 in
theorem c_bits_193 : SpecD S 22 [.int .i64 193] [] (.int .i64 32) [] := by
  have c := c_refName 193
  rw [r_193] at c
  refine specE ok sh22 rfl ?_
  conv => whnf
  refine call_of [] (c) (by rfl) (by rfl) ?_
  conv => whnf
  exact end_of [] (by rfl) (by rfl) (by rfl) (by exact ⟨rfl, rfl⟩)

set_option maxRecDepth 100000 in
theorem c_test_193 : SpecD S 30 [.int .i64 193] [] (.bool false) [] := by
  refine specE ok sh30 rfl ?_
  conv => whnf
  exact end_of [] (by rfl) (by rfl) (by rfl) (by exact ⟨rfl, rfl⟩)

set_option maxRecDepth 100000 in
theorem c_ans_193 : SpecD S 23 [.int .i64 193] [] (.int .i64 32) [] := by
  refine specE ok sh23 rfl ?_
  conv => whnf
  refine call_of [] (c_test_193) (by rfl) (by rfl) ?_
  conv => whnf
  refine call_of [] (c_bits_193) (by rfl) (by rfl) ?_
  conv => whnf
  exact end_of [] (by rfl) (by rfl) (by rfl) (by exact ⟨rfl, rfl⟩)

set_option maxRecDepth 100000 in
theorem c_types_193 : SpecD S 21 [.int .i64 193] [] (.tup [.int .i64 1, .int .i64 1, .int .i64 0]) [] := by
  refine specE ok sh21 rfl ?_
  conv => whnf
  refine call_of [] (f_193) (by rfl) (by rfl) ?_
  conv => whnf
  exact end_of [] (by rfl) (by rfl) (by rfl) (by exact ⟨rfl, rfl⟩)

set_option maxRecDepth 100000 in
theorem c_knows_193 : SpecD S 7 [.int .i64 193] [] (.bool true) [] := by
  have c1 := c_Name 193
  have c2 := c_refName 193
  rw [r_193] at c1 c2
  refine specE ok sh7 rfl ?_
  conv => whnf
  refine call_of [] (c_ary_extend16_s 193 r_193) (by rfl) (by rfl) ?_
  conv => whnf
  refine call_of [] (c_rar_extend16_s 193 r_193) (by rfl) (by rfl) ?_
  conv => whnf
  refine call_of [] (c1) (by rfl) (by rfl) ?_
  conv => whnf
  refine call_of [] (c2) (by rfl) (by rfl) ?_
  conv => whnf
  refine call_of [] (c_types_193) (by rfl) (by rfl) ?_
  conv => whnf
  refine call_of [] (c_bits_193) (by rfl) (by rfl) ?_
  conv => whnf
  refine ⟨by decide, ?_⟩
  conv => whnf
  refine call_of [] (c_ans_193) (by rfl) (by rfl) ?_
  conv => whnf
  refine ⟨by decide, ?_⟩
  conv => whnf
  exact end_of [] (by rfl) (by rfl) (by rfl) (by exact ⟨rfl, rfl⟩)

theorem r_194 : refL 194 = n_extend8_s := by kernel_rfl
theorem f_194 : F2 194 n_extend8_s true := by
  have := c_find 194
  rw [show findL 194 GS = (n_extend8_s, true) by kernel_rfl] at this
  exact this

set_option maxRecDepth 100000 in
theorem c_bits_194 : SpecD S 22 [.int .i64 194] [] (.int .i64 64) [] := by
  have c := c_refName 194
  rw [r_194] at c
  refine specE ok sh22 rfl ?_
  conv => whnf
  refine call_of [] (c) (by rfl) (by rfl) ?_
  conv => whnf
  exact end_of [] (by rfl) (by rfl) (by rfl) (by exact ⟨rfl, rfl⟩)

set_option maxRecDepth 100000 in
theorem c_test_194 : SpecD S 30 [.int .i64 194] [] (.bool false) [] := by
  refine specE ok sh30 rfl ?_
  conv => whnf
  exact end_of [] (by rfl) (by rfl) (by rfl) (by exact ⟨rfl, rfl⟩)

set_option maxRecDepth 100000 in
theorem c_ans_194 : SpecD S 23 [.int .i64 194] [] (.int .i64 64) [] := by
  refine specE ok sh23 rfl ?_
  conv => whnf
  refine call_of [] (c_test_194) (by rfl) (by rfl) ?_
  conv => whnf
  refine call_of [] (c_bits_194) (by rfl) (by rfl) ?_
  conv => whnf
  exact end_of [] (by rfl) (by rfl) (by rfl) (by exact ⟨rfl, rfl⟩)

set_option maxRecDepth 100000 in
theorem c_types_194 : SpecD S 21 [.int .i64 194] [] (.tup [.int .i64 2, .int .i64 2, .int .i64 0]) [] := by
  refine specE ok sh21 rfl ?_
  conv => whnf
  refine call_of [] (f_194) (by rfl) (by rfl) ?_
  conv => whnf
  exact end_of [] (by rfl) (by rfl) (by rfl) (by exact ⟨rfl, rfl⟩)

set_option maxRecDepth 100000 in
theorem c_knows_194 : SpecD S 7 [.int .i64 194] [] (.bool true) [] := by
  have c1 := c_Name 194
  have c2 := c_refName 194
  rw [r_194] at c1 c2
  refine specE ok sh7 rfl ?_
  conv => whnf
  refine call_of [] (c_ary_extend8_s 194 r_194) (by rfl) (by rfl) ?_
  conv => whnf
  refine call_of [] (c_rar_extend8_s 194 r_194) (by rfl) (by rfl) ?_
  conv => whnf
  refine call_of [] (c1) (by rfl) (by rfl) ?_
  conv => whnf
  refine call_of [] (c2) (by rfl) (by rfl) ?_
  conv => whnf
  refine call_of [] (c_types_194) (by rfl) (by rfl) ?_
  conv => whnf
  refine call_of [] (c_bits_194) (by rfl) (by rfl) ?_
  conv => whnf
  refine ⟨by decide, ?_⟩
  conv => whnf
  refine call_of [] (c_ans_194) (by rfl) (by rfl) ?_
  conv => whnf
  refine ⟨by decide, ?_⟩
  conv => whnf
  exact end_of [] (by rfl) (by rfl) (by rfl) (by exact ⟨rfl, rfl⟩)

theorem r_195 : refL 195 = n_extend16_s := by kernel_rfl
theorem f_195 : F2 195 n_extend16_s true := by
  have := c_find 195
  rw [show findL 195 GS = (n_extend16_s, true) by kernel_rfl] at this
  exact this

set_option maxRecDepth 100000 in
theorem c_bits_195 : SpecD S 22 [.int .i64 195] [] (.int .i64 64) [] := by
  have c := c_refName 195
  rw [r_195] at c
  refine specE ok sh22 rfl ?_
  conv => whnf
  refine call_of [] (c) (by rfl) (by rfl) ?_
  conv => whnf
  exact end_of [] (by rfl) (by rfl) (by rfl) (by exact ⟨rfl, rfl⟩)

set_option maxRecDepth 100000 in
theorem c_test_195 : SpecD S 30 [.int .i64 195] [] (.bool false) [] := by
  refine specE ok sh30 rfl ?_
  conv => whnf
  exact end_of [] (by rfl) (by rfl) (by rfl) (by exact ⟨rfl, rfl⟩)

set_option maxRecDepth 100000 in
theorem c_ans_195 : SpecD S 23 [.int .i64 195] [] (.int .i64 64) [] := by
  refine specE ok sh23 rfl ?_
  conv => whnf
  refine call_of [] (c_test_195) (by rfl) (by rfl) ?_
  conv => whnf
  refine call_of [] (c_bits_195) (by rfl) (by rfl) ?_
  conv => whnf
  exact end_of [] (by rfl) (by rfl) (by rfl) (by exact ⟨rfl, rfl⟩)

set_option maxRecDepth 100000 in
theorem c_types_195 : SpecD S 21 [.int .i64 195] [] (.tup [.int .i64 2, .int .i64 2, .int .i64 0]) [] := by
  refine specE ok sh21 rfl ?_
  conv => whnf
  refine call_of [] (f_195) (by rfl) (by rfl) ?_
  conv => whnf
  exact end_of [] (by rfl) (by rfl) (by rfl) (by exact ⟨rfl, rfl⟩)

set_option maxRecDepth 100000 in
theorem c_knows_195 : SpecD S 7 [.int .i64 195] [] (.bool true) [] := by
  have c1 := c_Name 195
  have c2 := c_refName 195
  rw [r_195] at c1 c2
  refine specE ok sh7 rfl ?_
  conv => whnf
  refine call_of [] (c_ary_extend16_s 195 r_195) (by rfl) (by rfl) ?_
  conv => whnf
  refine call_of [] (c_rar_extend16_s 195 r_195) (by rfl) (by rfl) ?_
  conv => whnf
  refine call_of [] (c1) (by rfl) (by rfl) ?_
  conv => whnf
  refine call_of [] (c2) (by rfl) (by rfl) ?_
  conv => whnf
  refine call_of [] (c_types_195) (by rfl) (by rfl) ?_
  conv => whnf
  refine call_of [] (c_bits_195) (by rfl) (by rfl) ?_
  conv => whnf
  refine ⟨by decide, ?_⟩
  conv => whnf
  refine call_of [] (c_ans_195) (by rfl) (by rfl) ?_
  conv => whnf
  refine ⟨by decide, ?_⟩
  conv => whnf
  exact end_of [] (by rfl) (by rfl) (by rfl) (by exact ⟨rfl, rfl⟩)

theorem r_196 : refL 196 = n_extend32_s := by kernel_rfl
theorem f_196 : F2 196 n_extend32_s true := by
  have := c_find 196
  rw [show findL 196 GS = (n_extend32_s, true) by kernel_rfl] at this
  exact this

set_option maxRecDepth 100000 in
theorem c_bits_196 : SpecD S 22 [.int .i64 196] [] (.int .i64 64) [] := by
  have c := c_refName 196
  rw [r_196] at c
  refine specE ok sh22 rfl ?_
  conv => whnf
  refine call_of [] (c) (by rfl) (by rfl) ?_
  conv => whnf
  exact end_of [] (by rfl) (by rfl) (by rfl) (by exact ⟨rfl, rfl⟩)

set_option maxRecDepth 100000 in
theorem c_test_196 : SpecD S 30 [.int .i64 196] [] (.bool false) [] := by
  refine specE ok sh30 rfl ?_
  conv => whnf
  exact end_of [] (by rfl) (by rfl) (by rfl) (by exact ⟨rfl, rfl⟩)

set_option maxRecDepth 100000 in
theorem c_ans_196 : SpecD S 23 [.int .i64 196] [] (.int .i64 64) [] := by
  refine specE ok sh23 rfl ?_
  conv => whnf
  refine call_of [] (c_test_196) (by rfl) (by rfl) ?_
  conv => whnf
  refine call_of [] (c_bits_196) (by rfl) (by rfl) ?_
  conv => whnf
  exact end_of [] (by rfl) (by rfl) (by rfl) (by exact ⟨rfl, rfl⟩)

set_option maxRecDepth 100000 in
theorem c_types_196 : SpecD S 21 [.int .i64 196] [] (.tup [.int .i64 2, .int .i64 2, .int .i64 0]) [] := by
  refine specE ok sh21 rfl ?_
  conv => whnf
  refine call_of [] (f_196) (by rfl) (by rfl) ?_
  conv => whnf
  exact end_of [] (by rfl) (by rfl) (by rfl) (by exact ⟨rfl, rfl⟩)

set_option maxRecDepth 100000 in
theorem c_knows_196 : SpecD S 7 [.int .i64 196] [] (.bool true) [] := by
  have c1 := c_Name 196
  have c2 := c_refName 196
  rw [r_196] at c1 c2
  refine specE ok sh7 rfl ?_
  conv => whnf
  refine call_of [] (c_ary_extend32_s 196 r_196) (by rfl) (by rfl) ?_
  conv => whnf
  refine call_of [] (c_rar_extend32_s 196 r_196) (by rfl) (by rfl) ?_
  conv => whnf
  refine call_of [] (c1) (by rfl) (by rfl) ?_
  conv => whnf
  refine call_of [] (c2) (by rfl) (by rfl) ?_
  conv => whnf
  refine call_of [] (c_types_196) (by rfl) (by rfl) ?_
  conv => whnf
  refine call_of [] (c_bits_196) (by rfl) (by rfl) ?_
  conv => whnf
  refine ⟨by decide, ?_⟩
  conv => whnf
  refine call_of [] (c_ans_196) (by rfl) (by rfl) ?_
  conv => whnf
  refine ⟨by decide, ?_⟩
  conv => whnf
  exact end_of [] (by rfl) (by rfl) (by rfl) (by exact ⟨rfl, rfl⟩)

theorem c_knows (op : Int) : SpecD S 7 [.int .i64 op] [] (.bool true) [] := by
  rcases op_cases op with h | h
  · exact c_knows0 op h
  · simp only [List.mem_cons, List.not_mem_nil, or_false] at h
    rcases h with rfl | rfl | rfl | rfl | rfl | rfl | rfl | rfl | rfl | rfl | rfl | rfl | rfl | rfl | rfl | rfl | rfl | rfl | rfl | rfl | rfl | rfl | rfl | rfl | rfl | rfl | rfl | rfl | rfl | rfl | rfl | rfl | rfl | rfl | rfl | rfl | rfl | rfl | rfl | rfl | rfl | rfl | rfl | rfl | rfl | rfl | rfl | rfl | rfl | rfl | rfl | rfl | rfl | rfl | rfl | rfl | rfl | rfl | rfl | rfl | rfl | rfl | rfl | rfl | rfl | rfl
    · exact c_knows_69
    · exact c_knows_70
    · exact c_knows_71
    · exact c_knows_72
    · exact c_knows_73
    · exact c_knows_74
    · exact c_knows_75
    · exact c_knows_76
    · exact c_knows_77
    · exact c_knows_78
    · exact c_knows_79
    · exact c_knows_80
    · exact c_knows_81
    · exact c_knows_82
    · exact c_knows_83
    · exact c_knows_84
    · exact c_knows_85
    · exact c_knows_86
    · exact c_knows_87
    · exact c_knows_88
    · exact c_knows_89
    · exact c_knows_90
    · exact c_knows_103
    · exact c_knows_104
    · exact c_knows_105
    · exact c_knows_106
    · exact c_knows_107
    · exact c_knows_108
    · exact c_knows_109
    · exact c_knows_110
    · exact c_knows_111
    · exact c_knows_112
    · exact c_knows_113
    · exact c_knows_114
    · exact c_knows_115
    · exact c_knows_116
    · exact c_knows_117
    · exact c_knows_118
    · exact c_knows_119
    · exact c_knows_120
    · exact c_knows_121
    · exact c_knows_122
    · exact c_knows_123
    · exact c_knows_124
    · exact c_knows_125
    · exact c_knows_126
    · exact c_knows_127
    · exact c_knows_128
    · exact c_knows_129
    · exact c_knows_130
    · exact c_knows_131
    · exact c_knows_132
    · exact c_knows_133
    · exact c_knows_134
    · exact c_knows_135
    · exact c_knows_136
    · exact c_knows_137
    · exact c_knows_138
    · exact c_knows_167
    · exact c_knows_172
    · exact c_knows_173
    · exact c_knows_192
    · exact c_knows_193
    · exact c_knows_194
    · exact c_knows_195
    · exact c_knows_196

end Sh
end Go.Proofs.YtoegodeglgeomaaDoor
