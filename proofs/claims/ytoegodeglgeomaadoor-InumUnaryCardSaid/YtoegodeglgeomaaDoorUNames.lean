/- MADE BY PROGRAM (namegen.py): the reference's names. -/
import Derived.Test.YtoegodeglgeomaaDoorUWords
namespace Go.Proofs.YtoegodeglgeomaaDoor
open Go
namespace Sh

def sE : ByteArray := ⟨#[101, 120, 116, 101, 110, 100, 56, 95, 115, 32, 101, 120, 116, 101, 110, 100, 49, 54, 95, 115, 32, 101, 120, 116, 101, 110, 100, 56, 95, 115, 32, 101, 120, 116, 101, 110, 100, 49, 54, 95, 115, 32, 101, 120, 116, 101, 110, 100, 51, 50, 95, 115]⟩

def refL (op : Int) : ByteArray :=
  if 69 ≤ op ∧ op ≤ 79 then wordsW sT op (sT.size + 1) 69 0 0 else
  if 80 ≤ op ∧ op ≤ 90 then wordsW sT op (sT.size + 1) 80 0 0 else
  if 103 ≤ op ∧ op ≤ 120 then wordsW sS op (sS.size + 1) 103 0 0 else
  if 121 ≤ op ∧ op ≤ 138 then wordsW sS op (sS.size + 1) 121 0 0 else
  if 192 ≤ op ∧ op ≤ 196 then wordsW sE op (sE.size + 1) 192 0 0 else
  if op = 167 then ⟨#[119, 114, 97, 112, 95, 105, 54, 52]⟩ else
  if op = 172 then ⟨#[101, 120, 116, 101, 110, 100, 95, 105, 51, 50, 95, 115]⟩ else
  if op = 173 then ⟨#[101, 120, 116, 101, 110, 100, 95, 105, 51, 50, 95, 117]⟩ else
  ⟨#[]⟩

set_option maxRecDepth 100000 in
theorem c_rn_0 (op : Int) (h1 : op ≤ 68) : SpecD S 20 [.int .i64 op] [] (.str (refL op)) [] := by
  have hr : refL op = ⟨#[]⟩ := by rw [refL, if_neg (by omega), if_neg (by omega), if_neg (by omega), if_neg (by omega), if_neg (by omega), if_neg (by omega), if_neg (by omega), if_neg (by omega)]
  rw [hr]
  refine specE ok sh20 rfl ?_
  conv => whnf
  repeat (simp only [show decide ((69 : Int) ≤ op) = false from decide_eq_false (by omega), show decide (op ≤ (79 : Int)) = true from decide_eq_true (by omega), show decide ((80 : Int) ≤ op) = false from decide_eq_false (by omega), show decide (op ≤ (90 : Int)) = true from decide_eq_true (by omega), show decide ((103 : Int) ≤ op) = false from decide_eq_false (by omega), show decide (op ≤ (120 : Int)) = true from decide_eq_true (by omega), show decide ((121 : Int) ≤ op) = false from decide_eq_false (by omega), show decide (op ≤ (138 : Int)) = true from decide_eq_true (by omega), show decide ((192 : Int) ≤ op) = false from decide_eq_false (by omega), show decide (op ≤ (196 : Int)) = true from decide_eq_true (by omega), show (op == (167 : Int)) = false from by simp; omega, show (op == (172 : Int)) = false from by simp; omega, show (op == (173 : Int)) = false from by simp; omega]; conv => whnf)
  exact end_of [] (by rfl) (by rfl) (by rfl) (by exact ⟨rfl, rfl⟩)

set_option maxRecDepth 100000 in
theorem c_rn_1 (op : Int) (h0 : 69 ≤ op) (h1 : op ≤ 79) : SpecD S 20 [.int .i64 op] [] (.str (refL op)) [] := by
  have hr : refL op = wordsW sT op (sT.size + 1) 69 0 0 := by rw [refL, if_pos (by omega)]
  rw [hr]
  refine specE ok sh20 rfl ?_
  conv => whnf
  repeat (simp only [show decide ((69 : Int) ≤ op) = true from decide_eq_true (by omega), show decide (op ≤ (79 : Int)) = true from decide_eq_true (by omega), show decide ((80 : Int) ≤ op) = false from decide_eq_false (by omega), show decide (op ≤ (90 : Int)) = true from decide_eq_true (by omega), show decide ((103 : Int) ≤ op) = false from decide_eq_false (by omega), show decide (op ≤ (120 : Int)) = true from decide_eq_true (by omega), show decide ((121 : Int) ≤ op) = false from decide_eq_false (by omega), show decide (op ≤ (138 : Int)) = true from decide_eq_true (by omega), show decide ((192 : Int) ≤ op) = false from decide_eq_false (by omega), show decide (op ≤ (196 : Int)) = true from decide_eq_true (by omega), show (op == (167 : Int)) = false from by simp; omega, show (op == (172 : Int)) = false from by simp; omega, show (op == (173 : Int)) = false from by simp; omega]; conv => whnf)
  refine call_of [] (c_words 69 op sT (by decide) (by decide) (by decide) _ rfl) (by rfl) (by rfl) ?_
  conv => whnf
  exact end_of [] (by rfl) (by rfl) (by rfl) (by exact ⟨rfl, rfl⟩)

set_option maxRecDepth 100000 in
theorem c_rn_2 (op : Int) (h0 : 80 ≤ op) (h1 : op ≤ 90) : SpecD S 20 [.int .i64 op] [] (.str (refL op)) [] := by
  have hr : refL op = wordsW sT op (sT.size + 1) 80 0 0 := by rw [refL, if_neg (by omega), if_pos (by omega)]
  rw [hr]
  refine specE ok sh20 rfl ?_
  conv => whnf
  repeat (simp only [show decide ((69 : Int) ≤ op) = true from decide_eq_true (by omega), show decide (op ≤ (79 : Int)) = false from decide_eq_false (by omega), show decide ((80 : Int) ≤ op) = true from decide_eq_true (by omega), show decide (op ≤ (90 : Int)) = true from decide_eq_true (by omega), show decide ((103 : Int) ≤ op) = false from decide_eq_false (by omega), show decide (op ≤ (120 : Int)) = true from decide_eq_true (by omega), show decide ((121 : Int) ≤ op) = false from decide_eq_false (by omega), show decide (op ≤ (138 : Int)) = true from decide_eq_true (by omega), show decide ((192 : Int) ≤ op) = false from decide_eq_false (by omega), show decide (op ≤ (196 : Int)) = true from decide_eq_true (by omega), show (op == (167 : Int)) = false from by simp; omega, show (op == (172 : Int)) = false from by simp; omega, show (op == (173 : Int)) = false from by simp; omega]; conv => whnf)
  refine call_of [] (c_words 80 op sT (by decide) (by decide) (by decide) _ rfl) (by rfl) (by rfl) ?_
  conv => whnf
  exact end_of [] (by rfl) (by rfl) (by rfl) (by exact ⟨rfl, rfl⟩)

set_option maxRecDepth 100000 in
theorem c_rn_3 (op : Int) (h0 : 91 ≤ op) (h1 : op ≤ 102) : SpecD S 20 [.int .i64 op] [] (.str (refL op)) [] := by
  have hr : refL op = ⟨#[]⟩ := by rw [refL, if_neg (by omega), if_neg (by omega), if_neg (by omega), if_neg (by omega), if_neg (by omega), if_neg (by omega), if_neg (by omega), if_neg (by omega)]
  rw [hr]
  refine specE ok sh20 rfl ?_
  conv => whnf
  repeat (simp only [show decide ((69 : Int) ≤ op) = true from decide_eq_true (by omega), show decide (op ≤ (79 : Int)) = false from decide_eq_false (by omega), show decide ((80 : Int) ≤ op) = true from decide_eq_true (by omega), show decide (op ≤ (90 : Int)) = false from decide_eq_false (by omega), show decide ((103 : Int) ≤ op) = false from decide_eq_false (by omega), show decide (op ≤ (120 : Int)) = true from decide_eq_true (by omega), show decide ((121 : Int) ≤ op) = false from decide_eq_false (by omega), show decide (op ≤ (138 : Int)) = true from decide_eq_true (by omega), show decide ((192 : Int) ≤ op) = false from decide_eq_false (by omega), show decide (op ≤ (196 : Int)) = true from decide_eq_true (by omega), show (op == (167 : Int)) = false from by simp; omega, show (op == (172 : Int)) = false from by simp; omega, show (op == (173 : Int)) = false from by simp; omega]; conv => whnf)
  exact end_of [] (by rfl) (by rfl) (by rfl) (by exact ⟨rfl, rfl⟩)

set_option maxRecDepth 100000 in
theorem c_rn_4 (op : Int) (h0 : 103 ≤ op) (h1 : op ≤ 120) : SpecD S 20 [.int .i64 op] [] (.str (refL op)) [] := by
  have hr : refL op = wordsW sS op (sS.size + 1) 103 0 0 := by rw [refL, if_neg (by omega), if_neg (by omega), if_pos (by omega)]
  rw [hr]
  refine specE ok sh20 rfl ?_
  conv => whnf
  repeat (simp only [show decide ((69 : Int) ≤ op) = true from decide_eq_true (by omega), show decide (op ≤ (79 : Int)) = false from decide_eq_false (by omega), show decide ((80 : Int) ≤ op) = true from decide_eq_true (by omega), show decide (op ≤ (90 : Int)) = false from decide_eq_false (by omega), show decide ((103 : Int) ≤ op) = true from decide_eq_true (by omega), show decide (op ≤ (120 : Int)) = true from decide_eq_true (by omega), show decide ((121 : Int) ≤ op) = false from decide_eq_false (by omega), show decide (op ≤ (138 : Int)) = true from decide_eq_true (by omega), show decide ((192 : Int) ≤ op) = false from decide_eq_false (by omega), show decide (op ≤ (196 : Int)) = true from decide_eq_true (by omega), show (op == (167 : Int)) = false from by simp; omega, show (op == (172 : Int)) = false from by simp; omega, show (op == (173 : Int)) = false from by simp; omega]; conv => whnf)
  refine call_of [] (c_words 103 op sS (by decide) (by decide) (by decide) _ rfl) (by rfl) (by rfl) ?_
  conv => whnf
  exact end_of [] (by rfl) (by rfl) (by rfl) (by exact ⟨rfl, rfl⟩)

set_option maxRecDepth 100000 in
theorem c_rn_5 (op : Int) (h0 : 121 ≤ op) (h1 : op ≤ 138) : SpecD S 20 [.int .i64 op] [] (.str (refL op)) [] := by
  have hr : refL op = wordsW sS op (sS.size + 1) 121 0 0 := by rw [refL, if_neg (by omega), if_neg (by omega), if_neg (by omega), if_pos (by omega)]
  rw [hr]
  refine specE ok sh20 rfl ?_
  conv => whnf
  repeat (simp only [show decide ((69 : Int) ≤ op) = true from decide_eq_true (by omega), show decide (op ≤ (79 : Int)) = false from decide_eq_false (by omega), show decide ((80 : Int) ≤ op) = true from decide_eq_true (by omega), show decide (op ≤ (90 : Int)) = false from decide_eq_false (by omega), show decide ((103 : Int) ≤ op) = true from decide_eq_true (by omega), show decide (op ≤ (120 : Int)) = false from decide_eq_false (by omega), show decide ((121 : Int) ≤ op) = true from decide_eq_true (by omega), show decide (op ≤ (138 : Int)) = true from decide_eq_true (by omega), show decide ((192 : Int) ≤ op) = false from decide_eq_false (by omega), show decide (op ≤ (196 : Int)) = true from decide_eq_true (by omega), show (op == (167 : Int)) = false from by simp; omega, show (op == (172 : Int)) = false from by simp; omega, show (op == (173 : Int)) = false from by simp; omega]; conv => whnf)
  refine call_of [] (c_words 121 op sS (by decide) (by decide) (by decide) _ rfl) (by rfl) (by rfl) ?_
  conv => whnf
  exact end_of [] (by rfl) (by rfl) (by rfl) (by exact ⟨rfl, rfl⟩)

set_option maxRecDepth 100000 in
theorem c_rn_6 (op : Int) (h0 : 139 ≤ op) (h1 : op ≤ 166) : SpecD S 20 [.int .i64 op] [] (.str (refL op)) [] := by
  have hr : refL op = ⟨#[]⟩ := by rw [refL, if_neg (by omega), if_neg (by omega), if_neg (by omega), if_neg (by omega), if_neg (by omega), if_neg (by omega), if_neg (by omega), if_neg (by omega)]
  rw [hr]
  refine specE ok sh20 rfl ?_
  conv => whnf
  repeat (simp only [show decide ((69 : Int) ≤ op) = true from decide_eq_true (by omega), show decide (op ≤ (79 : Int)) = false from decide_eq_false (by omega), show decide ((80 : Int) ≤ op) = true from decide_eq_true (by omega), show decide (op ≤ (90 : Int)) = false from decide_eq_false (by omega), show decide ((103 : Int) ≤ op) = true from decide_eq_true (by omega), show decide (op ≤ (120 : Int)) = false from decide_eq_false (by omega), show decide ((121 : Int) ≤ op) = true from decide_eq_true (by omega), show decide (op ≤ (138 : Int)) = false from decide_eq_false (by omega), show decide ((192 : Int) ≤ op) = false from decide_eq_false (by omega), show decide (op ≤ (196 : Int)) = true from decide_eq_true (by omega), show (op == (167 : Int)) = false from by simp; omega, show (op == (172 : Int)) = false from by simp; omega, show (op == (173 : Int)) = false from by simp; omega]; conv => whnf)
  exact end_of [] (by rfl) (by rfl) (by rfl) (by exact ⟨rfl, rfl⟩)

set_option maxRecDepth 100000 in
theorem c_rn_7 (op : Int) (h0 : 167 ≤ op) (h1 : op ≤ 167) : SpecD S 20 [.int .i64 op] [] (.str (refL op)) [] := by
  have hr : refL op = ⟨#[119, 114, 97, 112, 95, 105, 54, 52]⟩ := by rw [refL, if_neg (by omega), if_neg (by omega), if_neg (by omega), if_neg (by omega), if_neg (by omega), if_pos (by omega)]
  rw [hr]
  refine specE ok sh20 rfl ?_
  conv => whnf
  repeat (simp only [show decide ((69 : Int) ≤ op) = true from decide_eq_true (by omega), show decide (op ≤ (79 : Int)) = false from decide_eq_false (by omega), show decide ((80 : Int) ≤ op) = true from decide_eq_true (by omega), show decide (op ≤ (90 : Int)) = false from decide_eq_false (by omega), show decide ((103 : Int) ≤ op) = true from decide_eq_true (by omega), show decide (op ≤ (120 : Int)) = false from decide_eq_false (by omega), show decide ((121 : Int) ≤ op) = true from decide_eq_true (by omega), show decide (op ≤ (138 : Int)) = false from decide_eq_false (by omega), show decide ((192 : Int) ≤ op) = false from decide_eq_false (by omega), show decide (op ≤ (196 : Int)) = true from decide_eq_true (by omega), show (op == (167 : Int)) = true from by simp; omega, show (op == (172 : Int)) = false from by simp; omega, show (op == (173 : Int)) = false from by simp; omega]; conv => whnf)
  exact end_of [] (by rfl) (by rfl) (by rfl) (by exact ⟨rfl, rfl⟩)

set_option maxRecDepth 100000 in
theorem c_rn_8 (op : Int) (h0 : 168 ≤ op) (h1 : op ≤ 171) : SpecD S 20 [.int .i64 op] [] (.str (refL op)) [] := by
  have hr : refL op = ⟨#[]⟩ := by rw [refL, if_neg (by omega), if_neg (by omega), if_neg (by omega), if_neg (by omega), if_neg (by omega), if_neg (by omega), if_neg (by omega), if_neg (by omega)]
  rw [hr]
  refine specE ok sh20 rfl ?_
  conv => whnf
  repeat (simp only [show decide ((69 : Int) ≤ op) = true from decide_eq_true (by omega), show decide (op ≤ (79 : Int)) = false from decide_eq_false (by omega), show decide ((80 : Int) ≤ op) = true from decide_eq_true (by omega), show decide (op ≤ (90 : Int)) = false from decide_eq_false (by omega), show decide ((103 : Int) ≤ op) = true from decide_eq_true (by omega), show decide (op ≤ (120 : Int)) = false from decide_eq_false (by omega), show decide ((121 : Int) ≤ op) = true from decide_eq_true (by omega), show decide (op ≤ (138 : Int)) = false from decide_eq_false (by omega), show decide ((192 : Int) ≤ op) = false from decide_eq_false (by omega), show decide (op ≤ (196 : Int)) = true from decide_eq_true (by omega), show (op == (167 : Int)) = false from by simp; omega, show (op == (172 : Int)) = false from by simp; omega, show (op == (173 : Int)) = false from by simp; omega]; conv => whnf)
  exact end_of [] (by rfl) (by rfl) (by rfl) (by exact ⟨rfl, rfl⟩)

set_option maxRecDepth 100000 in
theorem c_rn_9 (op : Int) (h0 : 172 ≤ op) (h1 : op ≤ 172) : SpecD S 20 [.int .i64 op] [] (.str (refL op)) [] := by
  have hr : refL op = ⟨#[101, 120, 116, 101, 110, 100, 95, 105, 51, 50, 95, 115]⟩ := by rw [refL, if_neg (by omega), if_neg (by omega), if_neg (by omega), if_neg (by omega), if_neg (by omega), if_neg (by omega), if_pos (by omega)]
  rw [hr]
  refine specE ok sh20 rfl ?_
  conv => whnf
  repeat (simp only [show decide ((69 : Int) ≤ op) = true from decide_eq_true (by omega), show decide (op ≤ (79 : Int)) = false from decide_eq_false (by omega), show decide ((80 : Int) ≤ op) = true from decide_eq_true (by omega), show decide (op ≤ (90 : Int)) = false from decide_eq_false (by omega), show decide ((103 : Int) ≤ op) = true from decide_eq_true (by omega), show decide (op ≤ (120 : Int)) = false from decide_eq_false (by omega), show decide ((121 : Int) ≤ op) = true from decide_eq_true (by omega), show decide (op ≤ (138 : Int)) = false from decide_eq_false (by omega), show decide ((192 : Int) ≤ op) = false from decide_eq_false (by omega), show decide (op ≤ (196 : Int)) = true from decide_eq_true (by omega), show (op == (167 : Int)) = false from by simp; omega, show (op == (172 : Int)) = true from by simp; omega, show (op == (173 : Int)) = false from by simp; omega]; conv => whnf)
  exact end_of [] (by rfl) (by rfl) (by rfl) (by exact ⟨rfl, rfl⟩)

set_option maxRecDepth 100000 in
theorem c_rn_10 (op : Int) (h0 : 173 ≤ op) (h1 : op ≤ 173) : SpecD S 20 [.int .i64 op] [] (.str (refL op)) [] := by
  have hr : refL op = ⟨#[101, 120, 116, 101, 110, 100, 95, 105, 51, 50, 95, 117]⟩ := by rw [refL, if_neg (by omega), if_neg (by omega), if_neg (by omega), if_neg (by omega), if_neg (by omega), if_neg (by omega), if_neg (by omega), if_pos (by omega)]
  rw [hr]
  refine specE ok sh20 rfl ?_
  conv => whnf
  repeat (simp only [show decide ((69 : Int) ≤ op) = true from decide_eq_true (by omega), show decide (op ≤ (79 : Int)) = false from decide_eq_false (by omega), show decide ((80 : Int) ≤ op) = true from decide_eq_true (by omega), show decide (op ≤ (90 : Int)) = false from decide_eq_false (by omega), show decide ((103 : Int) ≤ op) = true from decide_eq_true (by omega), show decide (op ≤ (120 : Int)) = false from decide_eq_false (by omega), show decide ((121 : Int) ≤ op) = true from decide_eq_true (by omega), show decide (op ≤ (138 : Int)) = false from decide_eq_false (by omega), show decide ((192 : Int) ≤ op) = false from decide_eq_false (by omega), show decide (op ≤ (196 : Int)) = true from decide_eq_true (by omega), show (op == (167 : Int)) = false from by simp; omega, show (op == (172 : Int)) = false from by simp; omega, show (op == (173 : Int)) = true from by simp; omega]; conv => whnf)
  exact end_of [] (by rfl) (by rfl) (by rfl) (by exact ⟨rfl, rfl⟩)

set_option maxRecDepth 100000 in
theorem c_rn_11 (op : Int) (h0 : 174 ≤ op) (h1 : op ≤ 191) : SpecD S 20 [.int .i64 op] [] (.str (refL op)) [] := by
  have hr : refL op = ⟨#[]⟩ := by rw [refL, if_neg (by omega), if_neg (by omega), if_neg (by omega), if_neg (by omega), if_neg (by omega), if_neg (by omega), if_neg (by omega), if_neg (by omega)]
  rw [hr]
  refine specE ok sh20 rfl ?_
  conv => whnf
  repeat (simp only [show decide ((69 : Int) ≤ op) = true from decide_eq_true (by omega), show decide (op ≤ (79 : Int)) = false from decide_eq_false (by omega), show decide ((80 : Int) ≤ op) = true from decide_eq_true (by omega), show decide (op ≤ (90 : Int)) = false from decide_eq_false (by omega), show decide ((103 : Int) ≤ op) = true from decide_eq_true (by omega), show decide (op ≤ (120 : Int)) = false from decide_eq_false (by omega), show decide ((121 : Int) ≤ op) = true from decide_eq_true (by omega), show decide (op ≤ (138 : Int)) = false from decide_eq_false (by omega), show decide ((192 : Int) ≤ op) = false from decide_eq_false (by omega), show decide (op ≤ (196 : Int)) = true from decide_eq_true (by omega), show (op == (167 : Int)) = false from by simp; omega, show (op == (172 : Int)) = false from by simp; omega, show (op == (173 : Int)) = false from by simp; omega]; conv => whnf)
  exact end_of [] (by rfl) (by rfl) (by rfl) (by exact ⟨rfl, rfl⟩)

set_option maxRecDepth 100000 in
theorem c_rn_12 (op : Int) (h0 : 192 ≤ op) (h1 : op ≤ 196) : SpecD S 20 [.int .i64 op] [] (.str (refL op)) [] := by
  have hr : refL op = wordsW sE op (sE.size + 1) 192 0 0 := by rw [refL, if_neg (by omega), if_neg (by omega), if_neg (by omega), if_neg (by omega), if_pos (by omega)]
  rw [hr]
  refine specE ok sh20 rfl ?_
  conv => whnf
  repeat (simp only [show decide ((69 : Int) ≤ op) = true from decide_eq_true (by omega), show decide (op ≤ (79 : Int)) = false from decide_eq_false (by omega), show decide ((80 : Int) ≤ op) = true from decide_eq_true (by omega), show decide (op ≤ (90 : Int)) = false from decide_eq_false (by omega), show decide ((103 : Int) ≤ op) = true from decide_eq_true (by omega), show decide (op ≤ (120 : Int)) = false from decide_eq_false (by omega), show decide ((121 : Int) ≤ op) = true from decide_eq_true (by omega), show decide (op ≤ (138 : Int)) = false from decide_eq_false (by omega), show decide ((192 : Int) ≤ op) = true from decide_eq_true (by omega), show decide (op ≤ (196 : Int)) = true from decide_eq_true (by omega), show (op == (167 : Int)) = false from by simp; omega, show (op == (172 : Int)) = false from by simp; omega, show (op == (173 : Int)) = false from by simp; omega]; conv => whnf)
  refine call_of [] (c_words 192 op sE (by decide) (by decide) (by decide) _ rfl) (by rfl) (by rfl) ?_
  conv => whnf
  exact end_of [] (by rfl) (by rfl) (by rfl) (by exact ⟨rfl, rfl⟩)

set_option maxRecDepth 100000 in
theorem c_rn_13 (op : Int) (h0 : 197 ≤ op) : SpecD S 20 [.int .i64 op] [] (.str (refL op)) [] := by
  have hr : refL op = ⟨#[]⟩ := by rw [refL, if_neg (by omega), if_neg (by omega), if_neg (by omega), if_neg (by omega), if_neg (by omega), if_neg (by omega), if_neg (by omega), if_neg (by omega)]
  rw [hr]
  refine specE ok sh20 rfl ?_
  conv => whnf
  repeat (simp only [show decide ((69 : Int) ≤ op) = true from decide_eq_true (by omega), show decide (op ≤ (79 : Int)) = false from decide_eq_false (by omega), show decide ((80 : Int) ≤ op) = true from decide_eq_true (by omega), show decide (op ≤ (90 : Int)) = false from decide_eq_false (by omega), show decide ((103 : Int) ≤ op) = true from decide_eq_true (by omega), show decide (op ≤ (120 : Int)) = false from decide_eq_false (by omega), show decide ((121 : Int) ≤ op) = true from decide_eq_true (by omega), show decide (op ≤ (138 : Int)) = false from decide_eq_false (by omega), show decide ((192 : Int) ≤ op) = true from decide_eq_true (by omega), show decide (op ≤ (196 : Int)) = false from decide_eq_false (by omega), show (op == (167 : Int)) = false from by simp; omega, show (op == (172 : Int)) = false from by simp; omega, show (op == (173 : Int)) = false from by simp; omega]; conv => whnf)
  exact end_of [] (by rfl) (by rfl) (by rfl) (by exact ⟨rfl, rfl⟩)

theorem c_refName (op : Int) : SpecD S 20 [.int .i64 op] [] (.str (refL op)) [] := by
  by_cases g0 : op ≤ 68
  · exact c_rn_0 op g0
  by_cases g1 : op ≤ 79
  · exact c_rn_1 op (by omega) g1
  by_cases g2 : op ≤ 90
  · exact c_rn_2 op (by omega) g2
  by_cases g3 : op ≤ 102
  · exact c_rn_3 op (by omega) g3
  by_cases g4 : op ≤ 120
  · exact c_rn_4 op (by omega) g4
  by_cases g5 : op ≤ 138
  · exact c_rn_5 op (by omega) g5
  by_cases g6 : op ≤ 166
  · exact c_rn_6 op (by omega) g6
  by_cases g7 : op ≤ 167
  · exact c_rn_7 op (by omega) g7
  by_cases g8 : op ≤ 171
  · exact c_rn_8 op (by omega) g8
  by_cases g9 : op ≤ 172
  · exact c_rn_9 op (by omega) g9
  by_cases g10 : op ≤ 173
  · exact c_rn_10 op (by omega) g10
  by_cases g11 : op ≤ 191
  · exact c_rn_11 op (by omega) g11
  by_cases g12 : op ≤ 196
  · exact c_rn_12 op (by omega) g12
  exact c_rn_13 op (by omega)

end Sh
end Go.Proofs.YtoegodeglgeomaaDoor
