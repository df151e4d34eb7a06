/- MADE BY PROGRAM (ordgen.py): of less, equal, greater just one is true. -/
import Derived.Test.YtoegodeglgeomaaDoorUBin
namespace Go.Proofs.YtoegodeglgeomaaDoor
open Go
namespace Sh

set_option maxRecDepth 100000 in
theorem c_ord_32_s (a b : Int) (p q r s1 s2 s3 : Bool) (h1 : ((IntKind.u64.wrap (IntKind.u32.wrap a)) == (IntKind.u64.wrap (IntKind.u32.wrap b))) = p) (h2 : ((IntKind.u64.wrap (IntKind.u32.wrap a)) != (IntKind.u64.wrap (IntKind.u32.wrap b))) = q) (h3 : decide ((IntKind.i64.wrap (IntKind.i32.wrap (IntKind.u64.wrap (IntKind.u32.wrap a)))) < (IntKind.i64.wrap (IntKind.i32.wrap (IntKind.u64.wrap (IntKind.u32.wrap b))))) = r) (h4 : decide ((IntKind.i64.wrap (IntKind.i32.wrap (IntKind.u64.wrap (IntKind.u32.wrap b)))) < (IntKind.i64.wrap (IntKind.i32.wrap (IntKind.u64.wrap (IntKind.u32.wrap a))))) = s1) (h5 : decide ((IntKind.i64.wrap (IntKind.i32.wrap (IntKind.u64.wrap (IntKind.u32.wrap a)))) ≤ (IntKind.i64.wrap (IntKind.i32.wrap (IntKind.u64.wrap (IntKind.u32.wrap b))))) = s2) (h6 : decide ((IntKind.i64.wrap (IntKind.i32.wrap (IntKind.u64.wrap (IntKind.u32.wrap b)))) ≤ (IntKind.i64.wrap (IntKind.i32.wrap (IntKind.u64.wrap (IntKind.u32.wrap a))))) = s3)
    (hc : (p = true ∧ q = false ∧ r = false ∧ s1 = false ∧ s2 = true ∧ s3 = true) ∨ (p = false ∧ q = true ∧ r = true ∧ s1 = false ∧ s2 = true ∧ s3 = false) ∨ (p = false ∧ q = true ∧ r = false ∧ s1 = true ∧ s2 = false ∧ s3 = true)) :
    SpecD S 6 [.bool false, .bool false, .int .u64 a, .int .u64 b] [] (.bool true) [] := by
  have e1 := c_bin_eq_32 a b
  have e2 := c_bin_ne_32 a b
  have e3 := c_bin_lt_s_32 a b
  have e4 := c_bin_gt_s_32 a b
  have e5 := c_bin_le_s_32 a b
  have e6 := c_bin_ge_s_32 a b
  have e7 := c_bin_gt_s_32 b a
  rw [h1] at e1
  rw [h2] at e2
  rw [h3] at e3 e7
  rw [h4] at e4
  rw [h5] at e5
  rw [h6] at e6
  clear h1 h2 h3 h4 h5 h6
  rcases hc with ⟨rfl, rfl, rfl, rfl, rfl, rfl⟩ | ⟨rfl, rfl, rfl, rfl, rfl, rfl⟩ | ⟨rfl, rfl, rfl, rfl, rfl, rfl⟩
  · refine specE ok sh6 rfl ?_
    conv => whnf
    refine call_of [] (e1) (by rfl) (by rfl) ?_
    conv => whnf
    refine call_of [] (e2) (by rfl) (by rfl) ?_
    conv => whnf
    refine call_of [] (e3) (by rfl) (by rfl) ?_
    conv => whnf
    refine call_of [] (e4) (by rfl) (by rfl) ?_
    conv => whnf
    refine call_of [] (e5) (by rfl) (by rfl) ?_
    conv => whnf
    refine call_of [] (e6) (by rfl) (by rfl) ?_
    conv => whnf
    refine call_of [] (e7) (by rfl) (by rfl) ?_
    conv => whnf
    exact end_of [] (by rfl) (by rfl) (by rfl) (by exact ⟨rfl, rfl⟩)
  · refine specE ok sh6 rfl ?_
    conv => whnf
    refine call_of [] (e1) (by rfl) (by rfl) ?_
    conv => whnf
    refine call_of [] (e2) (by rfl) (by rfl) ?_
    conv => whnf
    refine call_of [] (e3) (by rfl) (by rfl) ?_
    conv => whnf
    refine call_of [] (e4) (by rfl) (by rfl) ?_
    conv => whnf
    refine call_of [] (e5) (by rfl) (by rfl) ?_
    conv => whnf
    refine call_of [] (e6) (by rfl) (by rfl) ?_
    conv => whnf
    refine call_of [] (e7) (by rfl) (by rfl) ?_
    conv => whnf
    exact end_of [] (by rfl) (by rfl) (by rfl) (by exact ⟨rfl, rfl⟩)
  · refine specE ok sh6 rfl ?_
    conv => whnf
    refine call_of [] (e1) (by rfl) (by rfl) ?_
    conv => whnf
    refine call_of [] (e2) (by rfl) (by rfl) ?_
    conv => whnf
    refine call_of [] (e3) (by rfl) (by rfl) ?_
    conv => whnf
    refine call_of [] (e4) (by rfl) (by rfl) ?_
    conv => whnf
    refine call_of [] (e5) (by rfl) (by rfl) ?_
    conv => whnf
    refine call_of [] (e6) (by rfl) (by rfl) ?_
    conv => whnf
    refine call_of [] (e7) (by rfl) (by rfl) ?_
    conv => whnf
    exact end_of [] (by rfl) (by rfl) (by rfl) (by exact ⟨rfl, rfl⟩)

set_option maxRecDepth 100000 in
theorem c_ord_32_u (a b : Int) (p q r s1 s2 s3 : Bool) (h1 : ((IntKind.u64.wrap (IntKind.u32.wrap a)) == (IntKind.u64.wrap (IntKind.u32.wrap b))) = p) (h2 : ((IntKind.u64.wrap (IntKind.u32.wrap a)) != (IntKind.u64.wrap (IntKind.u32.wrap b))) = q) (h3 : decide ((IntKind.u64.wrap (IntKind.u32.wrap a)) < (IntKind.u64.wrap (IntKind.u32.wrap b))) = r) (h4 : decide ((IntKind.u64.wrap (IntKind.u32.wrap b)) < (IntKind.u64.wrap (IntKind.u32.wrap a))) = s1) (h5 : decide ((IntKind.u64.wrap (IntKind.u32.wrap a)) ≤ (IntKind.u64.wrap (IntKind.u32.wrap b))) = s2) (h6 : decide ((IntKind.u64.wrap (IntKind.u32.wrap b)) ≤ (IntKind.u64.wrap (IntKind.u32.wrap a))) = s3)
    (hc : (p = true ∧ q = false ∧ r = false ∧ s1 = false ∧ s2 = true ∧ s3 = true) ∨ (p = false ∧ q = true ∧ r = true ∧ s1 = false ∧ s2 = true ∧ s3 = false) ∨ (p = false ∧ q = true ∧ r = false ∧ s1 = true ∧ s2 = false ∧ s3 = true)) :
    SpecD S 6 [.bool false, .bool true, .int .u64 a, .int .u64 b] [] (.bool true) [] := by
  have e1 := c_bin_eq_32 a b
  have e2 := c_bin_ne_32 a b
  have e3 := c_bin_lt_u_32 a b
  have e4 := c_bin_gt_u_32 a b
  have e5 := c_bin_le_u_32 a b
  have e6 := c_bin_ge_u_32 a b
  have e7 := c_bin_gt_u_32 b a
  rw [h1] at e1
  rw [h2] at e2
  rw [h3] at e3 e7
  rw [h4] at e4
  rw [h5] at e5
  rw [h6] at e6
  clear h1 h2 h3 h4 h5 h6
  rcases hc with ⟨rfl, rfl, rfl, rfl, rfl, rfl⟩ | ⟨rfl, rfl, rfl, rfl, rfl, rfl⟩ | ⟨rfl, rfl, rfl, rfl, rfl, rfl⟩
  · refine specE ok sh6 rfl ?_
    conv => whnf
    refine call_of [] (e1) (by rfl) (by rfl) ?_
    conv => whnf
    refine call_of [] (e2) (by rfl) (by rfl) ?_
    conv => whnf
    refine call_of [] (e3) (by rfl) (by rfl) ?_
    conv => whnf
    refine call_of [] (e4) (by rfl) (by rfl) ?_
    conv => whnf
    refine call_of [] (e5) (by rfl) (by rfl) ?_
    conv => whnf
    refine call_of [] (e6) (by rfl) (by rfl) ?_
    conv => whnf
    refine call_of [] (e7) (by rfl) (by rfl) ?_
    conv => whnf
    exact end_of [] (by rfl) (by rfl) (by rfl) (by exact ⟨rfl, rfl⟩)
  · refine specE ok sh6 rfl ?_
    conv => whnf
    refine call_of [] (e1) (by rfl) (by rfl) ?_
    conv => whnf
    refine call_of [] (e2) (by rfl) (by rfl) ?_
    conv => whnf
    refine call_of [] (e3) (by rfl) (by rfl) ?_
    conv => whnf
    refine call_of [] (e4) (by rfl) (by rfl) ?_
    conv => whnf
    refine call_of [] (e5) (by rfl) (by rfl) ?_
    conv => whnf
    refine call_of [] (e6) (by rfl) (by rfl) ?_
    conv => whnf
    refine call_of [] (e7) (by rfl) (by rfl) ?_
    conv => whnf
    exact end_of [] (by rfl) (by rfl) (by rfl) (by exact ⟨rfl, rfl⟩)
  · refine specE ok sh6 rfl ?_
    conv => whnf
    refine call_of [] (e1) (by rfl) (by rfl) ?_
    conv => whnf
    refine call_of [] (e2) (by rfl) (by rfl) ?_
    conv => whnf
    refine call_of [] (e3) (by rfl) (by rfl) ?_
    conv => whnf
    refine call_of [] (e4) (by rfl) (by rfl) ?_
    conv => whnf
    refine call_of [] (e5) (by rfl) (by rfl) ?_
    conv => whnf
    refine call_of [] (e6) (by rfl) (by rfl) ?_
    conv => whnf
    refine call_of [] (e7) (by rfl) (by rfl) ?_
    conv => whnf
    exact end_of [] (by rfl) (by rfl) (by rfl) (by exact ⟨rfl, rfl⟩)

set_option maxRecDepth 100000 in
theorem c_ord_64_s (a b : Int) (p q r s1 s2 s3 : Bool) (h1 : (a == b) = p) (h2 : (a != b) = q) (h3 : decide ((IntKind.i64.wrap a) < (IntKind.i64.wrap b)) = r) (h4 : decide ((IntKind.i64.wrap b) < (IntKind.i64.wrap a)) = s1) (h5 : decide ((IntKind.i64.wrap a) ≤ (IntKind.i64.wrap b)) = s2) (h6 : decide ((IntKind.i64.wrap b) ≤ (IntKind.i64.wrap a)) = s3)
    (hc : (p = true ∧ q = false ∧ r = false ∧ s1 = false ∧ s2 = true ∧ s3 = true) ∨ (p = false ∧ q = true ∧ r = true ∧ s1 = false ∧ s2 = true ∧ s3 = false) ∨ (p = false ∧ q = true ∧ r = false ∧ s1 = true ∧ s2 = false ∧ s3 = true)) :
    SpecD S 6 [.bool true, .bool false, .int .u64 a, .int .u64 b] [] (.bool true) [] := by
  have e1 := c_bin_eq_64 a b
  have e2 := c_bin_ne_64 a b
  have e3 := c_bin_lt_s_64 a b
  have e4 := c_bin_gt_s_64 a b
  have e5 := c_bin_le_s_64 a b
  have e6 := c_bin_ge_s_64 a b
  have e7 := c_bin_gt_s_64 b a
  rw [h1] at e1
  rw [h2] at e2
  rw [h3] at e3 e7
  rw [h4] at e4
  rw [h5] at e5
  rw [h6] at e6
  clear h1 h2 h3 h4 h5 h6
  rcases hc with ⟨rfl, rfl, rfl, rfl, rfl, rfl⟩ | ⟨rfl, rfl, rfl, rfl, rfl, rfl⟩ | ⟨rfl, rfl, rfl, rfl, rfl, rfl⟩
  · refine specE ok sh6 rfl ?_
    conv => whnf
    refine call_of [] (e1) (by rfl) (by rfl) ?_
    conv => whnf
    refine call_of [] (e2) (by rfl) (by rfl) ?_
    conv => whnf
    refine call_of [] (e3) (by rfl) (by rfl) ?_
    conv => whnf
    refine call_of [] (e4) (by rfl) (by rfl) ?_
    conv => whnf
    refine call_of [] (e5) (by rfl) (by rfl) ?_
    conv => whnf
    refine call_of [] (e6) (by rfl) (by rfl) ?_
    conv => whnf
    refine call_of [] (e7) (by rfl) (by rfl) ?_
    conv => whnf
    exact end_of [] (by rfl) (by rfl) (by rfl) (by exact ⟨rfl, rfl⟩)
  · refine specE ok sh6 rfl ?_
    conv => whnf
    refine call_of [] (e1) (by rfl) (by rfl) ?_
    conv => whnf
    refine call_of [] (e2) (by rfl) (by rfl) ?_
    conv => whnf
    refine call_of [] (e3) (by rfl) (by rfl) ?_
    conv => whnf
    refine call_of [] (e4) (by rfl) (by rfl) ?_
    conv => whnf
    refine call_of [] (e5) (by rfl) (by rfl) ?_
    conv => whnf
    refine call_of [] (e6) (by rfl) (by rfl) ?_
    conv => whnf
    refine call_of [] (e7) (by rfl) (by rfl) ?_
    conv => whnf
    exact end_of [] (by rfl) (by rfl) (by rfl) (by exact ⟨rfl, rfl⟩)
  · refine specE ok sh6 rfl ?_
    conv => whnf
    refine call_of [] (e1) (by rfl) (by rfl) ?_
    conv => whnf
    refine call_of [] (e2) (by rfl) (by rfl) ?_
    conv => whnf
    refine call_of [] (e3) (by rfl) (by rfl) ?_
    conv => whnf
    refine call_of [] (e4) (by rfl) (by rfl) ?_
    conv => whnf
    refine call_of [] (e5) (by rfl) (by rfl) ?_
    conv => whnf
    refine call_of [] (e6) (by rfl) (by rfl) ?_
    conv => whnf
    refine call_of [] (e7) (by rfl) (by rfl) ?_
    conv => whnf
    exact end_of [] (by rfl) (by rfl) (by rfl) (by exact ⟨rfl, rfl⟩)

set_option maxRecDepth 100000 in
theorem c_ord_64_u (a b : Int) (p q r s1 s2 s3 : Bool) (h1 : (a == b) = p) (h2 : (a != b) = q) (h3 : decide (a < b) = r) (h4 : decide (b < a) = s1) (h5 : decide (a ≤ b) = s2) (h6 : decide (b ≤ a) = s3)
    (hc : (p = true ∧ q = false ∧ r = false ∧ s1 = false ∧ s2 = true ∧ s3 = true) ∨ (p = false ∧ q = true ∧ r = true ∧ s1 = false ∧ s2 = true ∧ s3 = false) ∨ (p = false ∧ q = true ∧ r = false ∧ s1 = true ∧ s2 = false ∧ s3 = true)) :
    SpecD S 6 [.bool true, .bool true, .int .u64 a, .int .u64 b] [] (.bool true) [] := by
  have e1 := c_bin_eq_64 a b
  have e2 := c_bin_ne_64 a b
  have e3 := c_bin_lt_u_64 a b
  have e4 := c_bin_gt_u_64 a b
  have e5 := c_bin_le_u_64 a b
  have e6 := c_bin_ge_u_64 a b
  have e7 := c_bin_gt_u_64 b a
  rw [h1] at e1
  rw [h2] at e2
  rw [h3] at e3 e7
  rw [h4] at e4
  rw [h5] at e5
  rw [h6] at e6
  clear h1 h2 h3 h4 h5 h6
  rcases hc with ⟨rfl, rfl, rfl, rfl, rfl, rfl⟩ | ⟨rfl, rfl, rfl, rfl, rfl, rfl⟩ | ⟨rfl, rfl, rfl, rfl, rfl, rfl⟩
  · refine specE ok sh6 rfl ?_
    conv => whnf
    refine call_of [] (e1) (by rfl) (by rfl) ?_
    conv => whnf
    refine call_of [] (e2) (by rfl) (by rfl) ?_
    conv => whnf
    refine call_of [] (e3) (by rfl) (by rfl) ?_
    conv => whnf
    refine call_of [] (e4) (by rfl) (by rfl) ?_
    conv => whnf
    refine call_of [] (e5) (by rfl) (by rfl) ?_
    conv => whnf
    refine call_of [] (e6) (by rfl) (by rfl) ?_
    conv => whnf
    refine call_of [] (e7) (by rfl) (by rfl) ?_
    conv => whnf
    exact end_of [] (by rfl) (by rfl) (by rfl) (by exact ⟨rfl, rfl⟩)
  · refine specE ok sh6 rfl ?_
    conv => whnf
    refine call_of [] (e1) (by rfl) (by rfl) ?_
    conv => whnf
    refine call_of [] (e2) (by rfl) (by rfl) ?_
    conv => whnf
    refine call_of [] (e3) (by rfl) (by rfl) ?_
    conv => whnf
    refine call_of [] (e4) (by rfl) (by rfl) ?_
    conv => whnf
    refine call_of [] (e5) (by rfl) (by rfl) ?_
    conv => whnf
    refine call_of [] (e6) (by rfl) (by rfl) ?_
    conv => whnf
    refine call_of [] (e7) (by rfl) (by rfl) ?_
    conv => whnf
    exact end_of [] (by rfl) (by rfl) (by rfl) (by exact ⟨rfl, rfl⟩)
  · refine specE ok sh6 rfl ?_
    conv => whnf
    refine call_of [] (e1) (by rfl) (by rfl) ?_
    conv => whnf
    refine call_of [] (e2) (by rfl) (by rfl) ?_
    conv => whnf
    refine call_of [] (e3) (by rfl) (by rfl) ?_
    conv => whnf
    refine call_of [] (e4) (by rfl) (by rfl) ?_
    conv => whnf
    refine call_of [] (e5) (by rfl) (by rfl) ?_
    conv => whnf
    refine call_of [] (e6) (by rfl) (by rfl) ?_
    conv => whnf
    refine call_of [] (e7) (by rfl) (by rfl) ?_
    conv => whnf
    exact end_of [] (by rfl) (by rfl) (by rfl) (by exact ⟨rfl, rfl⟩)

theorem inj64 {a b : Int} (ha : 0 ≤ a ∧ a ≤ 18446744073709551615) (hb : 0 ≤ b ∧ b ≤ 18446744073709551615) (h : IntKind.i64.wrap a = IntKind.i64.wrap b) : a = b := by
  rw [IntKind.wrap_i64, IntKind.wrap_i64] at h
  omega

theorem inj32 {a b : Int} (ha : 0 ≤ a ∧ a ≤ 4294967295) (hb : 0 ≤ b ∧ b ≤ 4294967295) (h : IntKind.i64.wrap (IntKind.i32.wrap a) = IntKind.i64.wrap (IntKind.i32.wrap b)) : a = b := by
  rw [IntKind.wrap_i64, IntKind.wrap_i64, IntKind.wrap_i32, IntKind.wrap_i32] at h
  omega

theorem low32 (a : Int) : 0 ≤ IntKind.u64.wrap (IntKind.u32.wrap a) ∧ IntKind.u64.wrap (IntKind.u32.wrap a) ≤ 4294967295 := by
  rw [IntKind.wrap_u64, IntKind.wrap_u32]
  omega

theorem tri {A B X Y : Int} (h : X = Y → A = B) (h' : A = B → X = Y) : ((A == B) = true ∧ (A != B) = false ∧ decide (X < Y) = false ∧ decide (Y < X) = false ∧ decide (X ≤ Y) = true ∧ decide (Y ≤ X) = true) ∨
    ((A == B) = false ∧ (A != B) = true ∧ decide (X < Y) = true ∧ decide (Y < X) = false ∧ decide (X ≤ Y) = true ∧ decide (Y ≤ X) = false) ∨
    ((A == B) = false ∧ (A != B) = true ∧ decide (X < Y) = false ∧ decide (Y < X) = true ∧ decide (X ≤ Y) = false ∧ decide (Y ≤ X) = true) := by
  rcases Int.lt_trichotomy X Y with hl | he | hg
  · have : A ≠ B := fun e => by have := h' e; omega
    exact .inr (.inl ⟨by simp [this], by simp [this], by simp; omega, by simp; omega, by simp; omega, by simp; omega⟩)
  · have := h he
    exact .inl ⟨by simp [this], by simp [this], by simp; omega, by simp; omega, by simp; omega, by simp; omega⟩
  · have : A ≠ B := fun e => by have := h' e; omega
    exact .inr (.inr ⟨by simp [this], by simp [this], by simp; omega, by simp; omega, by simp; omega, by simp; omega⟩)

theorem c_orders (wide uns : Bool) (a b : Int) (ha : 0 ≤ a ∧ a ≤ 18446744073709551615) (hb : 0 ≤ b ∧ b ≤ 18446744073709551615) : SpecD S 6 [.bool wide, .bool uns, .int .u64 a, .int .u64 b] [] (.bool true) [] := by
  have la := low32 a
  have lb := low32 b
  cases wide <;> cases uns
  · exact c_ord_32_s a b _ _ _ _ _ _ rfl rfl rfl rfl rfl rfl (tri (fun h => inj32 la lb h) (fun h => by rw [h]))
  · exact c_ord_32_u a b _ _ _ _ _ _ rfl rfl rfl rfl rfl rfl (tri (fun h => h) (fun h => h))
  · exact c_ord_64_s a b _ _ _ _ _ _ rfl rfl rfl rfl rfl rfl (tri (fun h => inj64 ha hb h) (fun h => by rw [h]))
  · exact c_ord_64_u a b _ _ _ _ _ _ rfl rfl rfl rfl rfl rfl (tri (fun h => h) (fun h => h))

end Sh
end Go.Proofs.YtoegodeglgeomaaDoor
