/- MADE BY PROGRAM (divgen.py): what the program's quotients, rests, products and sums are. -/
import Derived.Test.YtoegodeglgeomaaDoorUBin
namespace Go.Proofs.YtoegodeglgeomaaDoor
open Go
namespace Sh

set_option maxRecDepth 100000 in
theorem c_pl_add_32 (A B X Y s : Int) : SpecD S 28 [.str n_add, .int .u64 A, .int .u64 B, .int .i64 X, .int .i64 Y, .int .u64 s] [] (.int .u64 (IntKind.u64.wrap (A + B))) [] := by
  refine specE ok sh28 rfl ?_
  conv => whnf
  exact end_of [] (by rfl) (by rfl) (by rfl) (by exact ⟨rfl, rfl⟩)

set_option maxRecDepth 100000 in
theorem c_bin_add_32 (a b : Int) : SpecD S 13 [.int .i64 106, .int .u64 a, .int .u64 b] [] (.tup [.int .u64 (IntKind.u64.wrap (IntKind.u32.wrap (IntKind.u64.wrap ((IntKind.u64.wrap (IntKind.u32.wrap a)) + (IntKind.u64.wrap (IntKind.u32.wrap b)))))), .int .i64 0]) [] := by
  refine specE ok sh13 rfl ?_
  conv => whnf
  refine call_of [] (c_fd_add_32) (by rfl) (by rfl) ?_
  conv => whnf
  refine call_of [] (c_ar_add) (by rfl) (by rfl) ?_
  conv => whnf
  refine call_of [] (c_pl_add_32 (IntKind.u64.wrap (IntKind.u32.wrap a)) (IntKind.u64.wrap (IntKind.u32.wrap b)) (IntKind.i64.wrap (IntKind.i32.wrap (IntKind.u64.wrap (IntKind.u32.wrap a)))) (IntKind.i64.wrap (IntKind.i32.wrap (IntKind.u64.wrap (IntKind.u32.wrap b)))) 32) (by rfl) (by rfl) ?_
  conv => whnf
  exact end_of [] (by rfl) (by rfl) (by rfl) (by exact ⟨rfl, rfl⟩)

set_option maxRecDepth 100000 in
theorem c_pl_mul_32 (A B X Y s : Int) : SpecD S 28 [.str n_mul, .int .u64 A, .int .u64 B, .int .i64 X, .int .i64 Y, .int .u64 s] [] (.int .u64 (IntKind.u64.wrap (A * B))) [] := by
  refine specE ok sh28 rfl ?_
  conv => whnf
  exact end_of [] (by rfl) (by rfl) (by rfl) (by exact ⟨rfl, rfl⟩)

set_option maxRecDepth 100000 in
theorem c_bin_mul_32 (a b : Int) : SpecD S 13 [.int .i64 108, .int .u64 a, .int .u64 b] [] (.tup [.int .u64 (IntKind.u64.wrap (IntKind.u32.wrap (IntKind.u64.wrap ((IntKind.u64.wrap (IntKind.u32.wrap a)) * (IntKind.u64.wrap (IntKind.u32.wrap b)))))), .int .i64 0]) [] := by
  refine specE ok sh13 rfl ?_
  conv => whnf
  refine call_of [] (c_fd_mul_32) (by rfl) (by rfl) ?_
  conv => whnf
  refine call_of [] (c_ar_mul) (by rfl) (by rfl) ?_
  conv => whnf
  refine call_of [] (c_pl_mul_32 (IntKind.u64.wrap (IntKind.u32.wrap a)) (IntKind.u64.wrap (IntKind.u32.wrap b)) (IntKind.i64.wrap (IntKind.i32.wrap (IntKind.u64.wrap (IntKind.u32.wrap a)))) (IntKind.i64.wrap (IntKind.i32.wrap (IntKind.u64.wrap (IntKind.u32.wrap b)))) 32) (by rfl) (by rfl) ?_
  conv => whnf
  exact end_of [] (by rfl) (by rfl) (by rfl) (by exact ⟨rfl, rfl⟩)

set_option maxRecDepth 100000 in
theorem c_bin_div_s_32_z (a b : Int) (h0 : ((IntKind.u64.wrap (IntKind.u32.wrap b)) == 0) = true) : SpecD S 13 [.int .i64 109, .int .u64 a, .int .u64 b] [] (.tup [.int .u64 0, .int .i64 30]) [] := by
  refine specE ok sh13 rfl ?_
  conv => whnf
  refine call_of [] (c_fd_div_s_32) (by rfl) (by rfl) ?_
  conv => whnf
  refine call_of [] (c_ar_div_s) (by rfl) (by rfl) ?_
  conv => whnf
  simp only [h0]
  conv => whnf
  refine ⟨rfl, ?_⟩
  conv => whnf
  exact end_of [] (by rfl) (by rfl) (by rfl) (by exact ⟨rfl, rfl⟩)

set_option maxRecDepth 100000 in
theorem c_bin_div_s_32_o (a b : Int) (h0 : ((IntKind.u64.wrap (IntKind.u32.wrap b)) == 0) = false) (h1 : ((IntKind.i64.wrap (IntKind.i32.wrap (IntKind.u64.wrap (IntKind.u32.wrap b)))) == -1) = true) (h2 : ((IntKind.i64.wrap (IntKind.i32.wrap (IntKind.u64.wrap (IntKind.u32.wrap a)))) == -2147483648) = true) : SpecD S 13 [.int .i64 109, .int .u64 a, .int .u64 b] [] (.tup [.int .u64 0, .int .i64 31]) [] := by
  refine specE ok sh13 rfl ?_
  conv => whnf
  refine call_of [] (c_fd_div_s_32) (by rfl) (by rfl) ?_
  conv => whnf
  refine call_of [] (c_ar_div_s) (by rfl) (by rfl) ?_
  conv => whnf
  simp only [h0]
  conv => whnf
  simp only [h1]
  conv => whnf
  refine ⟨by decide, ?_⟩
  conv => whnf
  have hm : IntKind.i64.wrap (-1 * 2 ^ (min (IntKind.u64.wrap (32 - 1)).toNat IntKind.i64.bits)) = -2147483648 := by decide
  simp only [hm, h2]
  conv => whnf
  refine ⟨rfl, ?_⟩
  conv => whnf
  exact end_of [] (by rfl) (by rfl) (by rfl) (by exact ⟨rfl, rfl⟩)

set_option maxRecDepth 100000 in
theorem c_bin_div_s_32_k1 (a b : Int) (h0 : ((IntKind.u64.wrap (IntKind.u32.wrap b)) == 0) = false) (h1 : ((IntKind.i64.wrap (IntKind.i32.wrap (IntKind.u64.wrap (IntKind.u32.wrap b)))) == -1) = false) (h2 : (IntKind.i64.wrap (IntKind.i32.wrap (IntKind.u64.wrap (IntKind.u32.wrap b)))) ≠ 0) : SpecD S 13 [.int .i64 109, .int .u64 a, .int .u64 b] [] (.tup [.int .u64 (IntKind.u64.wrap (IntKind.u32.wrap (IntKind.u64.wrap (IntKind.i64.wrap (Int.tdiv (IntKind.i64.wrap (IntKind.i32.wrap (IntKind.u64.wrap (IntKind.u32.wrap a)))) (IntKind.i64.wrap (IntKind.i32.wrap (IntKind.u64.wrap (IntKind.u32.wrap b))))))))), .int .i64 0]) [] := by
  refine specE ok sh13 rfl ?_
  conv => whnf
  refine call_of [] (c_fd_div_s_32) (by rfl) (by rfl) ?_
  conv => whnf
  refine call_of [] (c_ar_div_s) (by rfl) (by rfl) ?_
  conv => whnf
  simp only [h0]
  conv => whnf
  simp only [h1]
  conv => whnf
  refine ⟨h2, ?_⟩
  conv => whnf
  exact end_of [] (by rfl) (by rfl) (by rfl) (by exact ⟨rfl, rfl⟩)

set_option maxRecDepth 100000 in
theorem c_bin_div_s_32_k2 (a b : Int) (h0 : ((IntKind.u64.wrap (IntKind.u32.wrap b)) == 0) = false) (h1 : ((IntKind.i64.wrap (IntKind.i32.wrap (IntKind.u64.wrap (IntKind.u32.wrap b)))) == -1) = true) (h2 : ((IntKind.i64.wrap (IntKind.i32.wrap (IntKind.u64.wrap (IntKind.u32.wrap a)))) == -2147483648) = false) (h3 : (IntKind.i64.wrap (IntKind.i32.wrap (IntKind.u64.wrap (IntKind.u32.wrap b)))) ≠ 0) : SpecD S 13 [.int .i64 109, .int .u64 a, .int .u64 b] [] (.tup [.int .u64 (IntKind.u64.wrap (IntKind.u32.wrap (IntKind.u64.wrap (IntKind.i64.wrap (Int.tdiv (IntKind.i64.wrap (IntKind.i32.wrap (IntKind.u64.wrap (IntKind.u32.wrap a)))) (IntKind.i64.wrap (IntKind.i32.wrap (IntKind.u64.wrap (IntKind.u32.wrap b))))))))), .int .i64 0]) [] := by
  refine specE ok sh13 rfl ?_
  conv => whnf
  refine call_of [] (c_fd_div_s_32) (by rfl) (by rfl) ?_
  conv => whnf
  refine call_of [] (c_ar_div_s) (by rfl) (by rfl) ?_
  conv => whnf
  simp only [h0]
  conv => whnf
  simp only [h1]
  conv => whnf
  refine ⟨by decide, ?_⟩
  conv => whnf
  have hm : IntKind.i64.wrap (-1 * 2 ^ (min (IntKind.u64.wrap (32 - 1)).toNat IntKind.i64.bits)) = -2147483648 := by decide
  simp only [hm, h2]
  conv => whnf
  refine ⟨h3, ?_⟩
  conv => whnf
  exact end_of [] (by rfl) (by rfl) (by rfl) (by exact ⟨rfl, rfl⟩)

set_option maxRecDepth 100000 in
theorem c_bin_div_u_32_z (a b : Int) (h0 : ((IntKind.u64.wrap (IntKind.u32.wrap b)) == 0) = true) : SpecD S 13 [.int .i64 110, .int .u64 a, .int .u64 b] [] (.tup [.int .u64 0, .int .i64 30]) [] := by
  refine specE ok sh13 rfl ?_
  conv => whnf
  refine call_of [] (c_fd_div_u_32) (by rfl) (by rfl) ?_
  conv => whnf
  refine call_of [] (c_ar_div_u) (by rfl) (by rfl) ?_
  conv => whnf
  simp only [h0]
  conv => whnf
  refine ⟨rfl, ?_⟩
  conv => whnf
  exact end_of [] (by rfl) (by rfl) (by rfl) (by exact ⟨rfl, rfl⟩)

set_option maxRecDepth 100000 in
theorem c_bin_div_u_32_k (a b : Int) (h0 : ((IntKind.u64.wrap (IntKind.u32.wrap b)) == 0) = false) : SpecD S 13 [.int .i64 110, .int .u64 a, .int .u64 b] [] (.tup [.int .u64 (IntKind.u64.wrap (IntKind.u32.wrap (IntKind.u64.wrap (Int.tdiv (IntKind.u64.wrap (IntKind.u32.wrap a)) (IntKind.u64.wrap (IntKind.u32.wrap b)))))), .int .i64 0]) [] := by
  refine specE ok sh13 rfl ?_
  conv => whnf
  refine call_of [] (c_fd_div_u_32) (by rfl) (by rfl) ?_
  conv => whnf
  refine call_of [] (c_ar_div_u) (by rfl) (by rfl) ?_
  conv => whnf
  simp only [h0]
  conv => whnf
  refine ⟨by simpa using h0, ?_⟩
  conv => whnf
  exact end_of [] (by rfl) (by rfl) (by rfl) (by exact ⟨rfl, rfl⟩)

set_option maxRecDepth 100000 in
theorem c_bin_rem_s_32_z (a b : Int) (h0 : ((IntKind.u64.wrap (IntKind.u32.wrap b)) == 0) = true) : SpecD S 13 [.int .i64 111, .int .u64 a, .int .u64 b] [] (.tup [.int .u64 0, .int .i64 30]) [] := by
  refine specE ok sh13 rfl ?_
  conv => whnf
  refine call_of [] (c_fd_rem_s_32) (by rfl) (by rfl) ?_
  conv => whnf
  refine call_of [] (c_ar_rem_s) (by rfl) (by rfl) ?_
  conv => whnf
  simp only [h0]
  conv => whnf
  refine ⟨rfl, ?_⟩
  conv => whnf
  exact end_of [] (by rfl) (by rfl) (by rfl) (by exact ⟨rfl, rfl⟩)

set_option maxRecDepth 100000 in
theorem c_bin_rem_s_32_m (a b : Int) (h0 : ((IntKind.u64.wrap (IntKind.u32.wrap b)) == 0) = false) (h1 : ((IntKind.i64.wrap (IntKind.i32.wrap (IntKind.u64.wrap (IntKind.u32.wrap b)))) != -1) = false) : SpecD S 13 [.int .i64 111, .int .u64 a, .int .u64 b] [] (.tup [.int .u64 (IntKind.u64.wrap (IntKind.u32.wrap 0)), .int .i64 0]) [] := by
  refine specE ok sh13 rfl ?_
  conv => whnf
  refine call_of [] (c_fd_rem_s_32) (by rfl) (by rfl) ?_
  conv => whnf
  refine call_of [] (c_ar_rem_s) (by rfl) (by rfl) ?_
  conv => whnf
  simp only [h0]
  conv => whnf
  simp only [h1]
  conv => whnf
  exact end_of [] (by rfl) (by rfl) (by rfl) (by exact ⟨rfl, rfl⟩)

set_option maxRecDepth 100000 in
theorem c_bin_rem_s_32_k (a b : Int) (h0 : ((IntKind.u64.wrap (IntKind.u32.wrap b)) == 0) = false) (h1 : ((IntKind.i64.wrap (IntKind.i32.wrap (IntKind.u64.wrap (IntKind.u32.wrap b)))) != -1) = true) (h2 : (IntKind.i64.wrap (IntKind.i32.wrap (IntKind.u64.wrap (IntKind.u32.wrap b)))) ≠ 0) : SpecD S 13 [.int .i64 111, .int .u64 a, .int .u64 b] [] (.tup [.int .u64 (IntKind.u64.wrap (IntKind.u32.wrap (IntKind.u64.wrap (Int.tmod (IntKind.i64.wrap (IntKind.i32.wrap (IntKind.u64.wrap (IntKind.u32.wrap a)))) (IntKind.i64.wrap (IntKind.i32.wrap (IntKind.u64.wrap (IntKind.u32.wrap b)))))))), .int .i64 0]) [] := by
  refine specE ok sh13 rfl ?_
  conv => whnf
  refine call_of [] (c_fd_rem_s_32) (by rfl) (by rfl) ?_
  conv => whnf
  refine call_of [] (c_ar_rem_s) (by rfl) (by rfl) ?_
  conv => whnf
  simp only [h0]
  conv => whnf
  simp only [h1]
  conv => whnf
  refine ⟨h2, ?_⟩
  conv => whnf
  exact end_of [] (by rfl) (by rfl) (by rfl) (by exact ⟨rfl, rfl⟩)

set_option maxRecDepth 100000 in
theorem c_bin_rem_u_32_z (a b : Int) (h0 : ((IntKind.u64.wrap (IntKind.u32.wrap b)) == 0) = true) : SpecD S 13 [.int .i64 112, .int .u64 a, .int .u64 b] [] (.tup [.int .u64 0, .int .i64 30]) [] := by
  refine specE ok sh13 rfl ?_
  conv => whnf
  refine call_of [] (c_fd_rem_u_32) (by rfl) (by rfl) ?_
  conv => whnf
  refine call_of [] (c_ar_rem_u) (by rfl) (by rfl) ?_
  conv => whnf
  simp only [h0]
  conv => whnf
  refine ⟨rfl, ?_⟩
  conv => whnf
  exact end_of [] (by rfl) (by rfl) (by rfl) (by exact ⟨rfl, rfl⟩)

set_option maxRecDepth 100000 in
theorem c_bin_rem_u_32_k (a b : Int) (h0 : ((IntKind.u64.wrap (IntKind.u32.wrap b)) == 0) = false) : SpecD S 13 [.int .i64 112, .int .u64 a, .int .u64 b] [] (.tup [.int .u64 (IntKind.u64.wrap (IntKind.u32.wrap (Int.tmod (IntKind.u64.wrap (IntKind.u32.wrap a)) (IntKind.u64.wrap (IntKind.u32.wrap b))))), .int .i64 0]) [] := by
  refine specE ok sh13 rfl ?_
  conv => whnf
  refine call_of [] (c_fd_rem_u_32) (by rfl) (by rfl) ?_
  conv => whnf
  refine call_of [] (c_ar_rem_u) (by rfl) (by rfl) ?_
  conv => whnf
  simp only [h0]
  conv => whnf
  refine ⟨by simpa using h0, ?_⟩
  conv => whnf
  exact end_of [] (by rfl) (by rfl) (by rfl) (by exact ⟨rfl, rfl⟩)

set_option maxRecDepth 100000 in
theorem c_pl_add_64 (A B X Y s : Int) : SpecD S 28 [.str n_add, .int .u64 A, .int .u64 B, .int .i64 X, .int .i64 Y, .int .u64 s] [] (.int .u64 (IntKind.u64.wrap (A + B))) [] := by
  refine specE ok sh28 rfl ?_
  conv => whnf
  exact end_of [] (by rfl) (by rfl) (by rfl) (by exact ⟨rfl, rfl⟩)

set_option maxRecDepth 100000 in
theorem c_bin_add_64 (a b : Int) : SpecD S 13 [.int .i64 124, .int .u64 a, .int .u64 b] [] (.tup [.int .u64 (IntKind.u64.wrap (a + b)), .int .i64 0]) [] := by
  refine specE ok sh13 rfl ?_
  conv => whnf
  refine call_of [] (c_fd_add_64) (by rfl) (by rfl) ?_
  conv => whnf
  refine call_of [] (c_ar_add) (by rfl) (by rfl) ?_
  conv => whnf
  refine call_of [] (c_pl_add_64 a b (IntKind.i64.wrap a) (IntKind.i64.wrap b) 64) (by rfl) (by rfl) ?_
  conv => whnf
  exact end_of [] (by rfl) (by rfl) (by rfl) (by exact ⟨rfl, rfl⟩)

set_option maxRecDepth 100000 in
theorem c_pl_mul_64 (A B X Y s : Int) : SpecD S 28 [.str n_mul, .int .u64 A, .int .u64 B, .int .i64 X, .int .i64 Y, .int .u64 s] [] (.int .u64 (IntKind.u64.wrap (A * B))) [] := by
  refine specE ok sh28 rfl ?_
  conv => whnf
  exact end_of [] (by rfl) (by rfl) (by rfl) (by exact ⟨rfl, rfl⟩)

set_option maxRecDepth 100000 in
theorem c_bin_mul_64 (a b : Int) : SpecD S 13 [.int .i64 126, .int .u64 a, .int .u64 b] [] (.tup [.int .u64 (IntKind.u64.wrap (a * b)), .int .i64 0]) [] := by
  refine specE ok sh13 rfl ?_
  conv => whnf
  refine call_of [] (c_fd_mul_64) (by rfl) (by rfl) ?_
  conv => whnf
  refine call_of [] (c_ar_mul) (by rfl) (by rfl) ?_
  conv => whnf
  refine call_of [] (c_pl_mul_64 a b (IntKind.i64.wrap a) (IntKind.i64.wrap b) 64) (by rfl) (by rfl) ?_
  conv => whnf
  exact end_of [] (by rfl) (by rfl) (by rfl) (by exact ⟨rfl, rfl⟩)

set_option maxRecDepth 100000 in
theorem c_bin_div_s_64_z (a b : Int) (h0 : (b == 0) = true) : SpecD S 13 [.int .i64 127, .int .u64 a, .int .u64 b] [] (.tup [.int .u64 0, .int .i64 30]) [] := by
  refine specE ok sh13 rfl ?_
  conv => whnf
  refine call_of [] (c_fd_div_s_64) (by rfl) (by rfl) ?_
  conv => whnf
  refine call_of [] (c_ar_div_s) (by rfl) (by rfl) ?_
  conv => whnf
  simp only [h0]
  conv => whnf
  refine ⟨rfl, ?_⟩
  conv => whnf
  exact end_of [] (by rfl) (by rfl) (by rfl) (by exact ⟨rfl, rfl⟩)

set_option maxRecDepth 100000 in
theorem c_bin_div_s_64_o (a b : Int) (h0 : (b == 0) = false) (h1 : ((IntKind.i64.wrap b) == -1) = true) (h2 : ((IntKind.i64.wrap a) == -9223372036854775808) = true) : SpecD S 13 [.int .i64 127, .int .u64 a, .int .u64 b] [] (.tup [.int .u64 0, .int .i64 31]) [] := by
  refine specE ok sh13 rfl ?_
  conv => whnf
  refine call_of [] (c_fd_div_s_64) (by rfl) (by rfl) ?_
  conv => whnf
  refine call_of [] (c_ar_div_s) (by rfl) (by rfl) ?_
  conv => whnf
  simp only [h0]
  conv => whnf
  simp only [h1]
  conv => whnf
  refine ⟨by decide, ?_⟩
  conv => whnf
  have hm : IntKind.i64.wrap (-1 * 2 ^ (min (IntKind.u64.wrap (64 - 1)).toNat IntKind.i64.bits)) = -9223372036854775808 := by decide
  simp only [hm, h2]
  conv => whnf
  refine ⟨rfl, ?_⟩
  conv => whnf
  exact end_of [] (by rfl) (by rfl) (by rfl) (by exact ⟨rfl, rfl⟩)

set_option maxRecDepth 100000 in
theorem c_bin_div_s_64_k1 (a b : Int) (h0 : (b == 0) = false) (h1 : ((IntKind.i64.wrap b) == -1) = false) (h2 : (IntKind.i64.wrap b) ≠ 0) : SpecD S 13 [.int .i64 127, .int .u64 a, .int .u64 b] [] (.tup [.int .u64 (IntKind.u64.wrap (IntKind.i64.wrap (Int.tdiv (IntKind.i64.wrap a) (IntKind.i64.wrap b)))), .int .i64 0]) [] := by
  refine specE ok sh13 rfl ?_
  conv => whnf
  refine call_of [] (c_fd_div_s_64) (by rfl) (by rfl) ?_
  conv => whnf
  refine call_of [] (c_ar_div_s) (by rfl) (by rfl) ?_
  conv => whnf
  simp only [h0]
  conv => whnf
  simp only [h1]
  conv => whnf
  refine ⟨h2, ?_⟩
  conv => whnf
  exact end_of [] (by rfl) (by rfl) (by rfl) (by exact ⟨rfl, rfl⟩)

set_option maxRecDepth 100000 in
theorem c_bin_div_s_64_k2 (a b : Int) (h0 : (b == 0) = false) (h1 : ((IntKind.i64.wrap b) == -1) = true) (h2 : ((IntKind.i64.wrap a) == -9223372036854775808) = false) (h3 : (IntKind.i64.wrap b) ≠ 0) : SpecD S 13 [.int .i64 127, .int .u64 a, .int .u64 b] [] (.tup [.int .u64 (IntKind.u64.wrap (IntKind.i64.wrap (Int.tdiv (IntKind.i64.wrap a) (IntKind.i64.wrap b)))), .int .i64 0]) [] := by
  refine specE ok sh13 rfl ?_
  conv => whnf
  refine call_of [] (c_fd_div_s_64) (by rfl) (by rfl) ?_
  conv => whnf
  refine call_of [] (c_ar_div_s) (by rfl) (by rfl) ?_
  conv => whnf
  simp only [h0]
  conv => whnf
  simp only [h1]
  conv => whnf
  refine ⟨by decide, ?_⟩
  conv => whnf
  have hm : IntKind.i64.wrap (-1 * 2 ^ (min (IntKind.u64.wrap (64 - 1)).toNat IntKind.i64.bits)) = -9223372036854775808 := by decide
  simp only [hm, h2]
  conv => whnf
  refine ⟨h3, ?_⟩
  conv => whnf
  exact end_of [] (by rfl) (by rfl) (by rfl) (by exact ⟨rfl, rfl⟩)

set_option maxRecDepth 100000 in
theorem c_bin_div_u_64_z (a b : Int) (h0 : (b == 0) = true) : SpecD S 13 [.int .i64 128, .int .u64 a, .int .u64 b] [] (.tup [.int .u64 0, .int .i64 30]) [] := by
  refine specE ok sh13 rfl ?_
  conv => whnf
  refine call_of [] (c_fd_div_u_64) (by rfl) (by rfl) ?_
  conv => whnf
  refine call_of [] (c_ar_div_u) (by rfl) (by rfl) ?_
  conv => whnf
  simp only [h0]
  conv => whnf
  refine ⟨rfl, ?_⟩
  conv => whnf
  exact end_of [] (by rfl) (by rfl) (by rfl) (by exact ⟨rfl, rfl⟩)

set_option maxRecDepth 100000 in
theorem c_bin_div_u_64_k (a b : Int) (h0 : (b == 0) = false) : SpecD S 13 [.int .i64 128, .int .u64 a, .int .u64 b] [] (.tup [.int .u64 (IntKind.u64.wrap (Int.tdiv a b)), .int .i64 0]) [] := by
  refine specE ok sh13 rfl ?_
  conv => whnf
  refine call_of [] (c_fd_div_u_64) (by rfl) (by rfl) ?_
  conv => whnf
  refine call_of [] (c_ar_div_u) (by rfl) (by rfl) ?_
  conv => whnf
  simp only [h0]
  conv => whnf
  refine ⟨by simpa using h0, ?_⟩
  conv => whnf
  exact end_of [] (by rfl) (by rfl) (by rfl) (by exact ⟨rfl, rfl⟩)

set_option maxRecDepth 100000 in
theorem c_bin_rem_s_64_z (a b : Int) (h0 : (b == 0) = true) : SpecD S 13 [.int .i64 129, .int .u64 a, .int .u64 b] [] (.tup [.int .u64 0, .int .i64 30]) [] := by
  refine specE ok sh13 rfl ?_
  conv => whnf
  refine call_of [] (c_fd_rem_s_64) (by rfl) (by rfl) ?_
  conv => whnf
  refine call_of [] (c_ar_rem_s) (by rfl) (by rfl) ?_
  conv => whnf
  simp only [h0]
  conv => whnf
  refine ⟨rfl, ?_⟩
  conv => whnf
  exact end_of [] (by rfl) (by rfl) (by rfl) (by exact ⟨rfl, rfl⟩)

set_option maxRecDepth 100000 in
theorem c_bin_rem_s_64_m (a b : Int) (h0 : (b == 0) = false) (h1 : ((IntKind.i64.wrap b) != -1) = false) : SpecD S 13 [.int .i64 129, .int .u64 a, .int .u64 b] [] (.tup [.int .u64 0, .int .i64 0]) [] := by
  refine specE ok sh13 rfl ?_
  conv => whnf
  refine call_of [] (c_fd_rem_s_64) (by rfl) (by rfl) ?_
  conv => whnf
  refine call_of [] (c_ar_rem_s) (by rfl) (by rfl) ?_
  conv => whnf
  simp only [h0]
  conv => whnf
  simp only [h1]
  conv => whnf
  exact end_of [] (by rfl) (by rfl) (by rfl) (by exact ⟨rfl, rfl⟩)

set_option maxRecDepth 100000 in
theorem c_bin_rem_s_64_k (a b : Int) (h0 : (b == 0) = false) (h1 : ((IntKind.i64.wrap b) != -1) = true) (h2 : (IntKind.i64.wrap b) ≠ 0) : SpecD S 13 [.int .i64 129, .int .u64 a, .int .u64 b] [] (.tup [.int .u64 (IntKind.u64.wrap (Int.tmod (IntKind.i64.wrap a) (IntKind.i64.wrap b))), .int .i64 0]) [] := by
  refine specE ok sh13 rfl ?_
  conv => whnf
  refine call_of [] (c_fd_rem_s_64) (by rfl) (by rfl) ?_
  conv => whnf
  refine call_of [] (c_ar_rem_s) (by rfl) (by rfl) ?_
  conv => whnf
  simp only [h0]
  conv => whnf
  simp only [h1]
  conv => whnf
  refine ⟨h2, ?_⟩
  conv => whnf
  exact end_of [] (by rfl) (by rfl) (by rfl) (by exact ⟨rfl, rfl⟩)

set_option maxRecDepth 100000 in
theorem c_bin_rem_u_64_z (a b : Int) (h0 : (b == 0) = true) : SpecD S 13 [.int .i64 130, .int .u64 a, .int .u64 b] [] (.tup [.int .u64 0, .int .i64 30]) [] := by
  refine specE ok sh13 rfl ?_
  conv => whnf
  refine call_of [] (c_fd_rem_u_64) (by rfl) (by rfl) ?_
  conv => whnf
  refine call_of [] (c_ar_rem_u) (by rfl) (by rfl) ?_
  conv => whnf
  simp only [h0]
  conv => whnf
  refine ⟨rfl, ?_⟩
  conv => whnf
  exact end_of [] (by rfl) (by rfl) (by rfl) (by exact ⟨rfl, rfl⟩)

set_option maxRecDepth 100000 in
theorem c_bin_rem_u_64_k (a b : Int) (h0 : (b == 0) = false) : SpecD S 13 [.int .i64 130, .int .u64 a, .int .u64 b] [] (.tup [.int .u64 (Int.tmod a b), .int .i64 0]) [] := by
  refine specE ok sh13 rfl ?_
  conv => whnf
  refine call_of [] (c_fd_rem_u_64) (by rfl) (by rfl) ?_
  conv => whnf
  refine call_of [] (c_ar_rem_u) (by rfl) (by rfl) ?_
  conv => whnf
  simp only [h0]
  conv => whnf
  refine ⟨by simpa using h0, ?_⟩
  conv => whnf
  exact end_of [] (by rfl) (by rfl) (by rfl) (by exact ⟨rfl, rfl⟩)

end Sh
end Go.Proofs.YtoegodeglgeomaaDoor
