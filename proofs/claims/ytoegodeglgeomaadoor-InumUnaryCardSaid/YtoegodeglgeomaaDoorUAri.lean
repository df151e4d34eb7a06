/- MADE BY PROGRAM (arigen.py): how many values each name takes. -/
import Derived.Test.YtoegodeglgeomaaDoorUExt
import Derived.Test.YtoegodeglgeomaaDoorUOps
namespace Go.Proofs.YtoegodeglgeomaaDoor
open Go
namespace Sh

def n_ : ByteArray := ⟨#[]⟩
def n_eqz : ByteArray := ⟨#[101, 113, 122]⟩
def n_clz : ByteArray := ⟨#[99, 108, 122]⟩
def n_ctz : ByteArray := ⟨#[99, 116, 122]⟩
def n_popcnt : ByteArray := ⟨#[112, 111, 112, 99, 110, 116]⟩

def nmL : List ByteArray := [n_, n_eqz, n_eq, n_ne, n_lt_s, n_lt_u, n_gt_s, n_gt_u, n_le_s, n_le_u, n_ge_s, n_ge_u, n_clz, n_ctz, n_popcnt, n_add, n_sub, n_mul, n_div_s, n_div_u, n_rem_s, n_rem_u, n_and, n_or, n_xor, n_shl, n_shr_s, n_shr_u, n_rotl, n_rotr, n_extend8_s, n_extend16_s, n_extend32_s, n_extend_i32_s, n_extend_i32_u, n_wrap_i64]

theorem refL_in : (List.range 128).all (fun n => nmL.any (fun s => strEq (refL (69 + (n : Int))) s)) = true := by kernel_rfl

theorem refL_mem (op : Int) : refL op ∈ nmL := by
  by_cases h : op < 69 ∨ 196 < op
  · rw [refL_out h]; exact .head _
  · have h := List.all_eq_true.1 refL_in (op - 69).toNat (by simp; omega)
    have e : (69 : Int) + ((op - 69).toNat : Int) = op := by omega
    rw [e] at h
    obtain ⟨s, hs, he⟩ := List.any_eq_true.1 h
    rw [strEq_eq he]; exact hs

/-- how many values a name takes -/
def aR (s : ByteArray) : Int := if strEq s n_ then 0 else if [n_eqz, n_clz, n_ctz, n_popcnt, n_extend8_s, n_extend16_s, n_extend32_s, n_extend_i32_s, n_extend_i32_u, n_wrap_i64].any (strEq s) then 1 else 2

set_option maxRecDepth 100000 in
theorem c_rar_ (op : Int) (h : refL op = n_) : SpecD S 12 [.int .i64 op] [] (.int .i64 0) [] := by
  have c := c_refName op
  rw [h] at c
  refine specE ok sh12 rfl ?_
  conv => whnf
  refine call_of [] (c) (by rfl) (by rfl) ?_
  conv => whnf
  exact end_of [] (by rfl) (by rfl) (by rfl) (by exact ⟨rfl, rfl⟩)

set_option maxRecDepth 100000 in
theorem c_rar_eqz (op : Int) (h : refL op = n_eqz) : SpecD S 12 [.int .i64 op] [] (.int .i64 1) [] := by
  have c := c_refName op
  rw [h] at c
  refine specE ok sh12 rfl ?_
  conv => whnf
  refine call_of [] (c) (by rfl) (by rfl) ?_
  conv => whnf
  exact end_of [] (by rfl) (by rfl) (by rfl) (by exact ⟨rfl, rfl⟩)

set_option maxRecDepth 100000 in
theorem c_rar_eq (op : Int) (h : refL op = n_eq) : SpecD S 12 [.int .i64 op] [] (.int .i64 2) [] := by
  have c := c_refName op
  rw [h] at c
  refine specE ok sh12 rfl ?_
  conv => whnf
  refine call_of [] (c) (by rfl) (by rfl) ?_
  conv => whnf
  exact end_of [] (by rfl) (by rfl) (by rfl) (by exact ⟨rfl, rfl⟩)

set_option maxRecDepth 100000 in
theorem c_rar_ne (op : Int) (h : refL op = n_ne) : SpecD S 12 [.int .i64 op] [] (.int .i64 2) [] := by
  have c := c_refName op
  rw [h] at c
  refine specE ok sh12 rfl ?_
  conv => whnf
  refine call_of [] (c) (by rfl) (by rfl) ?_
  conv => whnf
  exact end_of [] (by rfl) (by rfl) (by rfl) (by exact ⟨rfl, rfl⟩)

set_option maxRecDepth 100000 in
theorem c_rar_lt_s (op : Int) (h : refL op = n_lt_s) : SpecD S 12 [.int .i64 op] [] (.int .i64 2) [] := by
  have c := c_refName op
  rw [h] at c
  refine specE ok sh12 rfl ?_
  conv => whnf
  refine call_of [] (c) (by rfl) (by rfl) ?_
  conv => whnf
  exact end_of [] (by rfl) (by rfl) (by rfl) (by exact ⟨rfl, rfl⟩)

set_option maxRecDepth 100000 in
theorem c_rar_lt_u (op : Int) (h : refL op = n_lt_u) : SpecD S 12 [.int .i64 op] [] (.int .i64 2) [] := by
  have c := c_refName op
  rw [h] at c
  refine specE ok sh12 rfl ?_
  conv => whnf
  refine call_of [] (c) (by rfl) (by rfl) ?_
  conv => whnf
  exact end_of [] (by rfl) (by rfl) (by rfl) (by exact ⟨rfl, rfl⟩)

set_option maxRecDepth 100000 in
theorem c_rar_gt_s (op : Int) (h : refL op = n_gt_s) : SpecD S 12 [.int .i64 op] [] (.int .i64 2) [] := by
  have c := c_refName op
  rw [h] at c
  refine specE ok sh12 rfl ?_
  conv => whnf
  refine call_of [] (c) (by rfl) (by rfl) ?_
  conv => whnf
  exact end_of [] (by rfl) (by rfl) (by rfl) (by exact ⟨rfl, rfl⟩)

set_option maxRecDepth 100000 in
theorem c_rar_gt_u (op : Int) (h : refL op = n_gt_u) : SpecD S 12 [.int .i64 op] [] (.int .i64 2) [] := by
  have c := c_refName op
  rw [h] at c
  refine specE ok sh12 rfl ?_
  conv => whnf
  refine call_of [] (c) (by rfl) (by rfl) ?_
  conv => whnf
  exact end_of [] (by rfl) (by rfl) (by rfl) (by exact ⟨rfl, rfl⟩)

set_option maxRecDepth 100000 in
theorem c_rar_le_s (op : Int) (h : refL op = n_le_s) : SpecD S 12 [.int .i64 op] [] (.int .i64 2) [] := by
  have c := c_refName op
  rw [h] at c
  refine specE ok sh12 rfl ?_
  conv => whnf
  refine call_of [] (c) (by rfl) (by rfl) ?_
  conv => whnf
  exact end_of [] (by rfl) (by rfl) (by rfl) (by exact ⟨rfl, rfl⟩)

set_option maxRecDepth 100000 in
theorem c_rar_le_u (op : Int) (h : refL op = n_le_u) : SpecD S 12 [.int .i64 op] [] (.int .i64 2) [] := by
  have c := c_refName op
  rw [h] at c
  refine specE ok sh12 rfl ?_
  conv => whnf
  refine call_of [] (c) (by rfl) (by rfl) ?_
  conv => whnf
  exact end_of [] (by rfl) (by rfl) (by rfl) (by exact ⟨rfl, rfl⟩)

set_option maxRecDepth 100000 in
theorem c_rar_ge_s (op : Int) (h : refL op = n_ge_s) : SpecD S 12 [.int .i64 op] [] (.int .i64 2) [] := by
  have c := c_refName op
  rw [h] at c
  refine specE ok sh12 rfl ?_
  conv => whnf
  refine call_of [] (c) (by rfl) (by rfl) ?_
  conv => whnf
  exact end_of [] (by rfl) (by rfl) (by rfl) (by exact ⟨rfl, rfl⟩)

set_option maxRecDepth 100000 in
theorem c_rar_ge_u (op : Int) (h : refL op = n_ge_u) : SpecD S 12 [.int .i64 op] [] (.int .i64 2) [] := by
  have c := c_refName op
  rw [h] at c
  refine specE ok sh12 rfl ?_
  conv => whnf
  refine call_of [] (c) (by rfl) (by rfl) ?_
  conv => whnf
  exact end_of [] (by rfl) (by rfl) (by rfl) (by exact ⟨rfl, rfl⟩)

set_option maxRecDepth 100000 in
theorem c_rar_clz (op : Int) (h : refL op = n_clz) : SpecD S 12 [.int .i64 op] [] (.int .i64 1) [] := by
  have c := c_refName op
  rw [h] at c
  refine specE ok sh12 rfl ?_
  conv => whnf
  refine call_of [] (c) (by rfl) (by rfl) ?_
  conv => whnf
  exact end_of [] (by rfl) (by rfl) (by rfl) (by exact ⟨rfl, rfl⟩)

set_option maxRecDepth 100000 in
theorem c_rar_ctz (op : Int) (h : refL op = n_ctz) : SpecD S 12 [.int .i64 op] [] (.int .i64 1) [] := by
  have c := c_refName op
  rw [h] at c
  refine specE ok sh12 rfl ?_
  conv => whnf
  refine call_of [] (c) (by rfl) (by rfl) ?_
  conv => whnf
  exact end_of [] (by rfl) (by rfl) (by rfl) (by exact ⟨rfl, rfl⟩)

set_option maxRecDepth 100000 in
theorem c_rar_popcnt (op : Int) (h : refL op = n_popcnt) : SpecD S 12 [.int .i64 op] [] (.int .i64 1) [] := by
  have c := c_refName op
  rw [h] at c
  refine specE ok sh12 rfl ?_
  conv => whnf
  refine call_of [] (c) (by rfl) (by rfl) ?_
  conv => whnf
  exact end_of [] (by rfl) (by rfl) (by rfl) (by exact ⟨rfl, rfl⟩)

set_option maxRecDepth 100000 in
theorem c_rar_add (op : Int) (h : refL op = n_add) : SpecD S 12 [.int .i64 op] [] (.int .i64 2) [] := by
  have c := c_refName op
  rw [h] at c
  refine specE ok sh12 rfl ?_
  conv => whnf
  refine call_of [] (c) (by rfl) (by rfl) ?_
  conv => whnf
  exact end_of [] (by rfl) (by rfl) (by rfl) (by exact ⟨rfl, rfl⟩)

set_option maxRecDepth 100000 in
theorem c_rar_sub (op : Int) (h : refL op = n_sub) : SpecD S 12 [.int .i64 op] [] (.int .i64 2) [] := by
  have c := c_refName op
  rw [h] at c
  refine specE ok sh12 rfl ?_
  conv => whnf
  refine call_of [] (c) (by rfl) (by rfl) ?_
  conv => whnf
  exact end_of [] (by rfl) (by rfl) (by rfl) (by exact ⟨rfl, rfl⟩)

set_option maxRecDepth 100000 in
theorem c_rar_mul (op : Int) (h : refL op = n_mul) : SpecD S 12 [.int .i64 op] [] (.int .i64 2) [] := by
  have c := c_refName op
  rw [h] at c
  refine specE ok sh12 rfl ?_
  conv => whnf
  refine call_of [] (c) (by rfl) (by rfl) ?_
  conv => whnf
  exact end_of [] (by rfl) (by rfl) (by rfl) (by exact ⟨rfl, rfl⟩)

set_option maxRecDepth 100000 in
theorem c_rar_div_s (op : Int) (h : refL op = n_div_s) : SpecD S 12 [.int .i64 op] [] (.int .i64 2) [] := by
  have c := c_refName op
  rw [h] at c
  refine specE ok sh12 rfl ?_
  conv => whnf
  refine call_of [] (c) (by rfl) (by rfl) ?_
  conv => whnf
  exact end_of [] (by rfl) (by rfl) (by rfl) (by exact ⟨rfl, rfl⟩)

set_option maxRecDepth 100000 in
theorem c_rar_div_u (op : Int) (h : refL op = n_div_u) : SpecD S 12 [.int .i64 op] [] (.int .i64 2) [] := by
  have c := c_refName op
  rw [h] at c
  refine specE ok sh12 rfl ?_
  conv => whnf
  refine call_of [] (c) (by rfl) (by rfl) ?_
  conv => whnf
  exact end_of [] (by rfl) (by rfl) (by rfl) (by exact ⟨rfl, rfl⟩)

set_option maxRecDepth 100000 in
theorem c_rar_rem_s (op : Int) (h : refL op = n_rem_s) : SpecD S 12 [.int .i64 op] [] (.int .i64 2) [] := by
  have c := c_refName op
  rw [h] at c
  refine specE ok sh12 rfl ?_
  conv => whnf
  refine call_of [] (c) (by rfl) (by rfl) ?_
  conv => whnf
  exact end_of [] (by rfl) (by rfl) (by rfl) (by exact ⟨rfl, rfl⟩)

set_option maxRecDepth 100000 in
theorem c_rar_rem_u (op : Int) (h : refL op = n_rem_u) : SpecD S 12 [.int .i64 op] [] (.int .i64 2) [] := by
  have c := c_refName op
  rw [h] at c
  refine specE ok sh12 rfl ?_
  conv => whnf
  refine call_of [] (c) (by rfl) (by rfl) ?_
  conv => whnf
  exact end_of [] (by rfl) (by rfl) (by rfl) (by exact ⟨rfl, rfl⟩)

set_option maxRecDepth 100000 in
theorem c_rar_and (op : Int) (h : refL op = n_and) : SpecD S 12 [.int .i64 op] [] (.int .i64 2) [] := by
  have c := c_refName op
  rw [h] at c
  refine specE ok sh12 rfl ?_
  conv => whnf
  refine call_of [] (c) (by rfl) (by rfl) ?_
  conv => whnf
  exact end_of [] (by rfl) (by rfl) (by rfl) (by exact ⟨rfl, rfl⟩)

set_option maxRecDepth 100000 in
theorem c_rar_or (op : Int) (h : refL op = n_or) : SpecD S 12 [.int .i64 op] [] (.int .i64 2) [] := by
  have c := c_refName op
  rw [h] at c
  refine specE ok sh12 rfl ?_
  conv => whnf
  refine call_of [] (c) (by rfl) (by rfl) ?_
  conv => whnf
  exact end_of [] (by rfl) (by rfl) (by rfl) (by exact ⟨rfl, rfl⟩)

set_option maxRecDepth 100000 in
theorem c_rar_xor (op : Int) (h : refL op = n_xor) : SpecD S 12 [.int .i64 op] [] (.int .i64 2) [] := by
  have c := c_refName op
  rw [h] at c
  refine specE ok sh12 rfl ?_
  conv => whnf
  refine call_of [] (c) (by rfl) (by rfl) ?_
  conv => whnf
  exact end_of [] (by rfl) (by rfl) (by rfl) (by exact ⟨rfl, rfl⟩)

set_option maxRecDepth 100000 in
theorem c_rar_shl (op : Int) (h : refL op = n_shl) : SpecD S 12 [.int .i64 op] [] (.int .i64 2) [] := by
  have c := c_refName op
  rw [h] at c
  refine specE ok sh12 rfl ?_
  conv => whnf
  refine call_of [] (c) (by rfl) (by rfl) ?_
  conv => whnf
  exact end_of [] (by rfl) (by rfl) (by rfl) (by exact ⟨rfl, rfl⟩)

set_option maxRecDepth 100000 in
theorem c_rar_shr_s (op : Int) (h : refL op = n_shr_s) : SpecD S 12 [.int .i64 op] [] (.int .i64 2) [] := by
  have c := c_refName op
  rw [h] at c
  refine specE ok sh12 rfl ?_
  conv => whnf
  refine call_of [] (c) (by rfl) (by rfl) ?_
  conv => whnf
  exact end_of [] (by rfl) (by rfl) (by rfl) (by exact ⟨rfl, rfl⟩)

set_option maxRecDepth 100000 in
theorem c_rar_shr_u (op : Int) (h : refL op = n_shr_u) : SpecD S 12 [.int .i64 op] [] (.int .i64 2) [] := by
  have c := c_refName op
  rw [h] at c
  refine specE ok sh12 rfl ?_
  conv => whnf
  refine call_of [] (c) (by rfl) (by rfl) ?_
  conv => whnf
  exact end_of [] (by rfl) (by rfl) (by rfl) (by exact ⟨rfl, rfl⟩)

set_option maxRecDepth 100000 in
theorem c_rar_rotl (op : Int) (h : refL op = n_rotl) : SpecD S 12 [.int .i64 op] [] (.int .i64 2) [] := by
  have c := c_refName op
  rw [h] at c
  refine specE ok sh12 rfl ?_
  conv => whnf
  refine call_of [] (c) (by rfl) (by rfl) ?_
  conv => whnf
  exact end_of [] (by rfl) (by rfl) (by rfl) (by exact ⟨rfl, rfl⟩)

set_option maxRecDepth 100000 in
theorem c_rar_rotr (op : Int) (h : refL op = n_rotr) : SpecD S 12 [.int .i64 op] [] (.int .i64 2) [] := by
  have c := c_refName op
  rw [h] at c
  refine specE ok sh12 rfl ?_
  conv => whnf
  refine call_of [] (c) (by rfl) (by rfl) ?_
  conv => whnf
  exact end_of [] (by rfl) (by rfl) (by rfl) (by exact ⟨rfl, rfl⟩)

set_option maxRecDepth 100000 in
theorem c_rar_extend8_s (op : Int) (h : refL op = n_extend8_s) : SpecD S 12 [.int .i64 op] [] (.int .i64 1) [] := by
  have c := c_refName op
  rw [h] at c
  refine specE ok sh12 rfl ?_
  conv => whnf
  refine call_of [] (c) (by rfl) (by rfl) ?_
  conv => whnf
  exact end_of [] (by rfl) (by rfl) (by rfl) (by exact ⟨rfl, rfl⟩)

set_option maxRecDepth 100000 in
theorem c_rar_extend16_s (op : Int) (h : refL op = n_extend16_s) : SpecD S 12 [.int .i64 op] [] (.int .i64 1) [] := by
  have c := c_refName op
  rw [h] at c
  refine specE ok sh12 rfl ?_
  conv => whnf
  refine call_of [] (c) (by rfl) (by rfl) ?_
  conv => whnf
  exact end_of [] (by rfl) (by rfl) (by rfl) (by exact ⟨rfl, rfl⟩)

set_option maxRecDepth 100000 in
theorem c_rar_extend32_s (op : Int) (h : refL op = n_extend32_s) : SpecD S 12 [.int .i64 op] [] (.int .i64 1) [] := by
  have c := c_refName op
  rw [h] at c
  refine specE ok sh12 rfl ?_
  conv => whnf
  refine call_of [] (c) (by rfl) (by rfl) ?_
  conv => whnf
  exact end_of [] (by rfl) (by rfl) (by rfl) (by exact ⟨rfl, rfl⟩)

set_option maxRecDepth 100000 in
theorem c_rar_extend_i32_s (op : Int) (h : refL op = n_extend_i32_s) : SpecD S 12 [.int .i64 op] [] (.int .i64 1) [] := by
  have c := c_refName op
  rw [h] at c
  refine specE ok sh12 rfl ?_
  conv => whnf
  refine call_of [] (c) (by rfl) (by rfl) ?_
  conv => whnf
  exact end_of [] (by rfl) (by rfl) (by rfl) (by exact ⟨rfl, rfl⟩)

set_option maxRecDepth 100000 in
theorem c_rar_extend_i32_u (op : Int) (h : refL op = n_extend_i32_u) : SpecD S 12 [.int .i64 op] [] (.int .i64 1) [] := by
  have c := c_refName op
  rw [h] at c
  refine specE ok sh12 rfl ?_
  conv => whnf
  refine call_of [] (c) (by rfl) (by rfl) ?_
  conv => whnf
  exact end_of [] (by rfl) (by rfl) (by rfl) (by exact ⟨rfl, rfl⟩)

set_option maxRecDepth 100000 in
theorem c_rar_wrap_i64 (op : Int) (h : refL op = n_wrap_i64) : SpecD S 12 [.int .i64 op] [] (.int .i64 1) [] := by
  have c := c_refName op
  rw [h] at c
  refine specE ok sh12 rfl ?_
  conv => whnf
  refine call_of [] (c) (by rfl) (by rfl) ?_
  conv => whnf
  exact end_of [] (by rfl) (by rfl) (by rfl) (by exact ⟨rfl, rfl⟩)

set_option maxRecDepth 100000 in
theorem c_ar_ : SpecD S 27 [.str n_] [] (.int .i64 0) [] := by
  refine specE ok sh27 rfl ?_
  conv => whnf
  exact end_of [] (by rfl) (by rfl) (by rfl) (by exact ⟨rfl, rfl⟩)

set_option maxRecDepth 100000 in
theorem c_ar_eqz : SpecD S 27 [.str n_eqz] [] (.int .i64 1) [] := by
  refine specE ok sh27 rfl ?_
  conv => whnf
  exact end_of [] (by rfl) (by rfl) (by rfl) (by exact ⟨rfl, rfl⟩)

set_option maxRecDepth 100000 in
theorem c_ar_clz : SpecD S 27 [.str n_clz] [] (.int .i64 1) [] := by
  refine specE ok sh27 rfl ?_
  conv => whnf
  exact end_of [] (by rfl) (by rfl) (by rfl) (by exact ⟨rfl, rfl⟩)

set_option maxRecDepth 100000 in
theorem c_ar_ctz : SpecD S 27 [.str n_ctz] [] (.int .i64 1) [] := by
  refine specE ok sh27 rfl ?_
  conv => whnf
  exact end_of [] (by rfl) (by rfl) (by rfl) (by exact ⟨rfl, rfl⟩)

set_option maxRecDepth 100000 in
theorem c_ar_popcnt : SpecD S 27 [.str n_popcnt] [] (.int .i64 1) [] := by
  refine specE ok sh27 rfl ?_
  conv => whnf
  exact end_of [] (by rfl) (by rfl) (by rfl) (by exact ⟨rfl, rfl⟩)

/-- a fact of every name is a fact of the reference's name -/
theorem by_name (op : Int) (P : ByteArray → Prop) (h : ∀ s ∈ nmL, refL op = s → P s) : P (refL op) := h _ (refL_mem op) rfl

theorem c_rArity (op : Int) : SpecD S 12 [.int .i64 op] [] (.int .i64 (aR (refL op))) [] := by
  refine by_name op (fun s => SpecD S 12 [.int .i64 op] [] (.int .i64 (aR s)) []) fun s hs h => ?_
  simp only [nmL, List.mem_cons, List.not_mem_nil, or_false] at hs
  rcases hs with rfl | rfl | rfl | rfl | rfl | rfl | rfl | rfl | rfl | rfl | rfl | rfl | rfl | rfl | rfl | rfl | rfl | rfl | rfl | rfl | rfl | rfl | rfl | rfl | rfl | rfl | rfl | rfl | rfl | rfl | rfl | rfl | rfl | rfl | rfl | rfl
  · exact c_rar_ op h
  · exact c_rar_eqz op h
  · exact c_rar_eq op h
  · exact c_rar_ne op h
  · exact c_rar_lt_s op h
  · exact c_rar_lt_u op h
  · exact c_rar_gt_s op h
  · exact c_rar_gt_u op h
  · exact c_rar_le_s op h
  · exact c_rar_le_u op h
  · exact c_rar_ge_s op h
  · exact c_rar_ge_u op h
  · exact c_rar_clz op h
  · exact c_rar_ctz op h
  · exact c_rar_popcnt op h
  · exact c_rar_add op h
  · exact c_rar_sub op h
  · exact c_rar_mul op h
  · exact c_rar_div_s op h
  · exact c_rar_div_u op h
  · exact c_rar_rem_s op h
  · exact c_rar_rem_u op h
  · exact c_rar_and op h
  · exact c_rar_or op h
  · exact c_rar_xor op h
  · exact c_rar_shl op h
  · exact c_rar_shr_s op h
  · exact c_rar_shr_u op h
  · exact c_rar_rotl op h
  · exact c_rar_rotr op h
  · exact c_rar_extend8_s op h
  · exact c_rar_extend16_s op h
  · exact c_rar_extend32_s op h
  · exact c_rar_extend_i32_s op h
  · exact c_rar_extend_i32_u op h
  · exact c_rar_wrap_i64 op h

theorem c_arity (op : Int) : SpecD S 27 [.str (refL op)] [] (.int .i64 (aR (refL op))) [] := by
  refine by_name op (fun s => SpecD S 27 [.str s] [] (.int .i64 (aR s)) []) fun s hs h => ?_
  simp only [nmL, List.mem_cons, List.not_mem_nil, or_false] at hs
  rcases hs with rfl | rfl | rfl | rfl | rfl | rfl | rfl | rfl | rfl | rfl | rfl | rfl | rfl | rfl | rfl | rfl | rfl | rfl | rfl | rfl | rfl | rfl | rfl | rfl | rfl | rfl | rfl | rfl | rfl | rfl | rfl | rfl | rfl | rfl | rfl | rfl
  · exact c_ar_
  · exact c_ar_eqz
  · exact c_ar_eq
  · exact c_ar_ne
  · exact c_ar_lt_s
  · exact c_ar_lt_u
  · exact c_ar_gt_s
  · exact c_ar_gt_u
  · exact c_ar_le_s
  · exact c_ar_le_u
  · exact c_ar_ge_s
  · exact c_ar_ge_u
  · exact c_ar_clz
  · exact c_ar_ctz
  · exact c_ar_popcnt
  · exact c_ar_add
  · exact c_ar_sub
  · exact c_ar_mul
  · exact c_ar_div_s
  · exact c_ar_div_u
  · exact c_ar_rem_s
  · exact c_ar_rem_u
  · exact c_ar_and
  · exact c_ar_or
  · exact c_ar_xor
  · exact c_ar_shl
  · exact c_ar_shr_s
  · exact c_ar_shr_u
  · exact c_ar_rotl
  · exact c_ar_rotr
  · exact c_ar_extend8_s
  · exact c_ar_extend16_s
  · exact c_ar_extend32_s
  · exact c_ar_extend_i32_s
  · exact c_ar_extend_i32_u
  · exact c_ar_wrap_i64


theorem aR_out {op : Int} (h : op < 69 ∨ 196 < op) : aR (refL op) = 0 := by rw [refL_out h]; rfl
theorem aR_in : (List.range 128).all (fun n => (aR (refL (69 + (n : Int))) == 0) == !(hasOp (69 + (n : Int)))) = true := by kernel_rfl
theorem aR_has (op : Int) : (aR (refL op) == 0) = !(hasOp op) := by
  unfold hasOp
  rw [Bool.not_not]
  unfold aR
  show (_ == (0 : Int)) = strEq (refL op) n_
  cases strEq (refL op) n_
  · rw [if_neg (by decide)]
    by_cases h : [n_eqz, n_clz, n_ctz, n_popcnt, n_extend8_s, n_extend16_s, n_extend32_s, n_extend_i32_s, n_extend_i32_u, n_wrap_i64].any (strEq (refL op)) = true
    · rw [if_pos h]; rfl
    · rw [if_neg h]; rfl
  · rfl


end Sh
end Go.Proofs.YtoegodeglgeomaaDoor
