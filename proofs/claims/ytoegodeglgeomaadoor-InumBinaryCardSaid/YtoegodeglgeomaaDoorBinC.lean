/- MADE BY PROGRAM (bnlaw.py): what the program's and the reference's operators of two values answer. -/
import Derived.Test.YtoegodeglgeomaaDoorBits
import Derived.Test.YtoegodeglgeomaaDoorKnow
namespace Go.Proofs.YtoegodeglgeomaaDoor
open Go PopT
namespace Sh

theorem e32 (A : Nat) : IntKind.u64.wrap (IntKind.u32.wrap (A : Int)) = ((A % 4294967296 : Nat) : Int) := by rw [u32_nat, u64_nat]; omega
theorem e32' {A : Nat} (h : A < 4294967296) : IntKind.u64.wrap (IntKind.u32.wrap (A : Int)) = (A : Int) := by rw [e32, Nat.mod_eq_of_lt h]
theorem u64_nat' {A : Nat} (h : A < 18446744073709551616) : IntKind.u64.wrap (A : Int) = (A : Int) := by rw [u64_nat, Nat.mod_eq_of_lt h]
theorem u64_nonneg (n : Int) : 0 ≤ IntKind.u64.wrap n := by rw [IntKind.wrap_u64]; omega

theorem c_rcN32 (A : Nat) : SpecD S 29 [.int .u64 (A : Int), .int .i64 32] [] (.int .u64 ((A % 4294967296 : Nat) : Int)) [] := by
  have := c_rcut32 (A : Int) (by omega)
  rw [e32] at this
  exact this
theorem c_rcN64 (A : Nat) : SpecD S 29 [.int .u64 (A : Int), .int .i64 64] [] (.int .u64 (A : Int)) [] := c_rcut64 _
theorem c_rsN32 (A : Nat) (hA : A < 4294967296) : SpecD S 38 [.int .u64 (A : Int), .int .i64 32] [] (.int .i64 (IntKind.i64.wrap (IntKind.i32.wrap (A : Int)))) [] := c_rsg32 _ (by omega) (by omega)
theorem c_rsN64 (A : Nat) (_ : A < 18446744073709551616) : SpecD S 38 [.int .u64 (A : Int), .int .i64 64] [] (.int .i64 (IntKind.i64.wrap (A : Int))) [] := c_rsg64 _

theorem and_nat (A B : Nat) (hA : A < 18446744073709551616) (hB : B < 18446744073709551616) : IntKind.u64.wrap ((BitVec.ofInt IntKind.u64.bits (A : Int) &&& BitVec.ofInt IntKind.u64.bits (B : Int)).toNat : Int) = ((A &&& B : Nat) : Int) := bits_and_u64_nat A B hA hB
theorem or_nat (A B : Nat) (hA : A < 18446744073709551616) (hB : B < 18446744073709551616) : IntKind.u64.wrap ((BitVec.ofInt IntKind.u64.bits (A : Int) ||| BitVec.ofInt IntKind.u64.bits (B : Int)).toNat : Int) = ((A ||| B : Nat) : Int) := bits_or_u64_nat A B hA hB
theorem xor_nat (a b : Nat) (ha : a < 18446744073709551616) (hb : b < 18446744073709551616) : IntKind.u64.wrap ((BitVec.ofInt IntKind.u64.bits (a : Int) ^^^ BitVec.ofInt IntKind.u64.bits (b : Int)).toNat : Int) = ((a ^^^ b : Nat) : Int) := by
  have hx : a ^^^ b < 2 ^ 64 := Nat.xor_lt_two_pow (by omega) (by omega)
  have h1 : (BitVec.ofInt 64 (a : Int)).toNat = a := by
    rw [BitVec.ofInt_natCast, BitVec.toNat_ofNat]; exact Nat.mod_eq_of_lt (by omega)
  have h2 : (BitVec.ofInt 64 (b : Int)).toNat = b := by
    rw [BitVec.ofInt_natCast, BitVec.toNat_ofNat]; exact Nat.mod_eq_of_lt (by omega)
  show IntKind.u64.wrap ((BitVec.ofInt 64 (a : Int) ^^^ BitVec.ofInt 64 (b : Int)).toNat : Int) = _
  rw [BitVec.toNat_xor, h1, h2, IntKind.wrap_u64]
  omega

theorem c_bp_70 (A B : Nat) (_hA : A < 18446744073709551616) (_hB : B < 18446744073709551616) : SpecD S 13 [.int .i64 70, .int .u64 (A : Int), .int .u64 (B : Int)] [] (.tup [.int .u64 (tr (((A % 4294967296 : Nat) : Int) == ((B % 4294967296 : Nat) : Int))), .int .i64 0]) [] := by
  have k := c_bin_eq_32 (A : Int) (B : Int)
  rw [e32 A, e32 B] at k
  exact k

set_option maxRecDepth 100000 in
theorem c_rcmp_eq_32 (A B : Nat) (hA : A < 4294967296) (hB : B < 4294967296) : SpecD S 31 [.str n_eq, .int .u64 (A : Int), .int .u64 (B : Int), .int .i64 32] [] (.int .u64 (tr ((A : Int) == (B : Int)))) [] := by
  refine specE ok sh31 rfl ?_
  conv => whnf
  refine call_of [] (c_rsN32 A hA) (by rfl) (by rfl) ?_
  conv => whnf
  refine call_of [] (c_rsN32 B hB) (by rfl) (by rfl) ?_
  conv => whnf
  refine call_of [] (c_rtruth ((A : Int) == (B : Int))) (by rfl) (by rfl) ?_
  conv => whnf
  exact end_of [] (by rfl) (by rfl) (by rfl) (by exact ⟨rfl, rfl⟩)

set_option maxRecDepth 100000 in
theorem c_rb_70 (A B : Nat) (_hA : A < 18446744073709551616) (_hB : B < 18446744073709551616) : SpecD S 15 [.int .i64 70, .int .u64 (A : Int), .int .u64 (B : Int)] [] (.tup [.int .u64 (tr (((A % 4294967296 : Nat) : Int) == ((B % 4294967296 : Nat) : Int))), .int .i64 0]) [] := by
  have c := c_refName 70
  rw [r_70] at c
  have hA1 : A % 4294967296 < 4294967296 := Nat.mod_lt _ (by decide)
  have hB1 : B % 4294967296 < 4294967296 := Nat.mod_lt _ (by decide)
  refine specE ok sh15 rfl ?_
  conv => whnf
  refine call_of [] (c_bits_70) (by rfl) (by rfl) ?_
  conv => whnf
  refine call_of [] (c_rcN32 A) (by rfl) (by rfl) ?_
  conv => whnf
  refine call_of [] (c_rcN32 B) (by rfl) (by rfl) ?_
  conv => whnf
  refine call_of [] (c) (by rfl) (by rfl) ?_
  conv => whnf
  refine call_of [] (c_test_70) (by rfl) (by rfl) ?_
  conv => whnf
  refine call_of [] (c_rcmp_eq_32 (A % 4294967296) (B % 4294967296) hA1 hB1) (by rfl) (by rfl) ?_
  conv => whnf
  exact end_of [] (by rfl) (by rfl) (by rfl) (by exact ⟨rfl, rfl⟩)

theorem c_bp_71 (A B : Nat) (_hA : A < 18446744073709551616) (_hB : B < 18446744073709551616) : SpecD S 13 [.int .i64 71, .int .u64 (A : Int), .int .u64 (B : Int)] [] (.tup [.int .u64 (tr (((A % 4294967296 : Nat) : Int) != ((B % 4294967296 : Nat) : Int))), .int .i64 0]) [] := by
  have k := c_bin_ne_32 (A : Int) (B : Int)
  rw [e32 A, e32 B] at k
  exact k

set_option maxRecDepth 100000 in
theorem c_rcmp_ne_32 (A B : Nat) (hA : A < 4294967296) (hB : B < 4294967296) : SpecD S 31 [.str n_ne, .int .u64 (A : Int), .int .u64 (B : Int), .int .i64 32] [] (.int .u64 (tr ((A : Int) != (B : Int)))) [] := by
  refine specE ok sh31 rfl ?_
  conv => whnf
  refine call_of [] (c_rsN32 A hA) (by rfl) (by rfl) ?_
  conv => whnf
  refine call_of [] (c_rsN32 B hB) (by rfl) (by rfl) ?_
  conv => whnf
  refine call_of [] (c_rtruth ((A : Int) != (B : Int))) (by rfl) (by rfl) ?_
  conv => whnf
  exact end_of [] (by rfl) (by rfl) (by rfl) (by exact ⟨rfl, rfl⟩)

set_option maxRecDepth 100000 in
theorem c_rb_71 (A B : Nat) (_hA : A < 18446744073709551616) (_hB : B < 18446744073709551616) : SpecD S 15 [.int .i64 71, .int .u64 (A : Int), .int .u64 (B : Int)] [] (.tup [.int .u64 (tr (((A % 4294967296 : Nat) : Int) != ((B % 4294967296 : Nat) : Int))), .int .i64 0]) [] := by
  have c := c_refName 71
  rw [r_71] at c
  have hA1 : A % 4294967296 < 4294967296 := Nat.mod_lt _ (by decide)
  have hB1 : B % 4294967296 < 4294967296 := Nat.mod_lt _ (by decide)
  refine specE ok sh15 rfl ?_
  conv => whnf
  refine call_of [] (c_bits_71) (by rfl) (by rfl) ?_
  conv => whnf
  refine call_of [] (c_rcN32 A) (by rfl) (by rfl) ?_
  conv => whnf
  refine call_of [] (c_rcN32 B) (by rfl) (by rfl) ?_
  conv => whnf
  refine call_of [] (c) (by rfl) (by rfl) ?_
  conv => whnf
  refine call_of [] (c_test_71) (by rfl) (by rfl) ?_
  conv => whnf
  refine call_of [] (c_rcmp_ne_32 (A % 4294967296) (B % 4294967296) hA1 hB1) (by rfl) (by rfl) ?_
  conv => whnf
  exact end_of [] (by rfl) (by rfl) (by rfl) (by exact ⟨rfl, rfl⟩)

theorem c_bp_72 (A B : Nat) (_hA : A < 18446744073709551616) (_hB : B < 18446744073709551616) : SpecD S 13 [.int .i64 72, .int .u64 (A : Int), .int .u64 (B : Int)] [] (.tup [.int .u64 (tr (decide ((IntKind.i64.wrap (IntKind.i32.wrap ((A % 4294967296 : Nat) : Int))) < (IntKind.i64.wrap (IntKind.i32.wrap ((B % 4294967296 : Nat) : Int)))))), .int .i64 0]) [] := by
  have k := c_bin_lt_s_32 (A : Int) (B : Int)
  rw [e32 A, e32 B] at k
  exact k

set_option maxRecDepth 100000 in
theorem c_rcmp_lt_s_32 (A B : Nat) (hA : A < 4294967296) (hB : B < 4294967296) : SpecD S 31 [.str n_lt_s, .int .u64 (A : Int), .int .u64 (B : Int), .int .i64 32] [] (.int .u64 (tr (decide ((IntKind.i64.wrap (IntKind.i32.wrap (A : Int))) < (IntKind.i64.wrap (IntKind.i32.wrap (B : Int))))))) [] := by
  refine specE ok sh31 rfl ?_
  conv => whnf
  refine call_of [] (c_rsN32 A hA) (by rfl) (by rfl) ?_
  conv => whnf
  refine call_of [] (c_rsN32 B hB) (by rfl) (by rfl) ?_
  conv => whnf
  refine call_of [] (c_rtruth (decide ((IntKind.i64.wrap (IntKind.i32.wrap (A : Int))) < (IntKind.i64.wrap (IntKind.i32.wrap (B : Int)))))) (by rfl) (by rfl) ?_
  conv => whnf
  exact end_of [] (by rfl) (by rfl) (by rfl) (by exact ⟨rfl, rfl⟩)

set_option maxRecDepth 100000 in
theorem c_rb_72 (A B : Nat) (_hA : A < 18446744073709551616) (_hB : B < 18446744073709551616) : SpecD S 15 [.int .i64 72, .int .u64 (A : Int), .int .u64 (B : Int)] [] (.tup [.int .u64 (tr (decide ((IntKind.i64.wrap (IntKind.i32.wrap ((A % 4294967296 : Nat) : Int))) < (IntKind.i64.wrap (IntKind.i32.wrap ((B % 4294967296 : Nat) : Int)))))), .int .i64 0]) [] := by
  have c := c_refName 72
  rw [r_72] at c
  have hA1 : A % 4294967296 < 4294967296 := Nat.mod_lt _ (by decide)
  have hB1 : B % 4294967296 < 4294967296 := Nat.mod_lt _ (by decide)
  refine specE ok sh15 rfl ?_
  conv => whnf
  refine call_of [] (c_bits_72) (by rfl) (by rfl) ?_
  conv => whnf
  refine call_of [] (c_rcN32 A) (by rfl) (by rfl) ?_
  conv => whnf
  refine call_of [] (c_rcN32 B) (by rfl) (by rfl) ?_
  conv => whnf
  refine call_of [] (c) (by rfl) (by rfl) ?_
  conv => whnf
  refine call_of [] (c_test_72) (by rfl) (by rfl) ?_
  conv => whnf
  refine call_of [] (c_rcmp_lt_s_32 (A % 4294967296) (B % 4294967296) hA1 hB1) (by rfl) (by rfl) ?_
  conv => whnf
  exact end_of [] (by rfl) (by rfl) (by rfl) (by exact ⟨rfl, rfl⟩)

theorem c_bp_73 (A B : Nat) (_hA : A < 18446744073709551616) (_hB : B < 18446744073709551616) : SpecD S 13 [.int .i64 73, .int .u64 (A : Int), .int .u64 (B : Int)] [] (.tup [.int .u64 (tr (decide (((A % 4294967296 : Nat) : Int) < ((B % 4294967296 : Nat) : Int)))), .int .i64 0]) [] := by
  have k := c_bin_lt_u_32 (A : Int) (B : Int)
  rw [e32 A, e32 B] at k
  exact k

set_option maxRecDepth 100000 in
theorem c_rcmp_lt_u_32 (A B : Nat) (hA : A < 4294967296) (hB : B < 4294967296) : SpecD S 31 [.str n_lt_u, .int .u64 (A : Int), .int .u64 (B : Int), .int .i64 32] [] (.int .u64 (tr (decide ((A : Int) < (B : Int))))) [] := by
  refine specE ok sh31 rfl ?_
  conv => whnf
  refine call_of [] (c_rsN32 A hA) (by rfl) (by rfl) ?_
  conv => whnf
  refine call_of [] (c_rsN32 B hB) (by rfl) (by rfl) ?_
  conv => whnf
  refine call_of [] (c_rtruth (decide ((A : Int) < (B : Int)))) (by rfl) (by rfl) ?_
  conv => whnf
  exact end_of [] (by rfl) (by rfl) (by rfl) (by exact ⟨rfl, rfl⟩)

set_option maxRecDepth 100000 in
theorem c_rb_73 (A B : Nat) (_hA : A < 18446744073709551616) (_hB : B < 18446744073709551616) : SpecD S 15 [.int .i64 73, .int .u64 (A : Int), .int .u64 (B : Int)] [] (.tup [.int .u64 (tr (decide (((A % 4294967296 : Nat) : Int) < ((B % 4294967296 : Nat) : Int)))), .int .i64 0]) [] := by
  have c := c_refName 73
  rw [r_73] at c
  have hA1 : A % 4294967296 < 4294967296 := Nat.mod_lt _ (by decide)
  have hB1 : B % 4294967296 < 4294967296 := Nat.mod_lt _ (by decide)
  refine specE ok sh15 rfl ?_
  conv => whnf
  refine call_of [] (c_bits_73) (by rfl) (by rfl) ?_
  conv => whnf
  refine call_of [] (c_rcN32 A) (by rfl) (by rfl) ?_
  conv => whnf
  refine call_of [] (c_rcN32 B) (by rfl) (by rfl) ?_
  conv => whnf
  refine call_of [] (c) (by rfl) (by rfl) ?_
  conv => whnf
  refine call_of [] (c_test_73) (by rfl) (by rfl) ?_
  conv => whnf
  refine call_of [] (c_rcmp_lt_u_32 (A % 4294967296) (B % 4294967296) hA1 hB1) (by rfl) (by rfl) ?_
  conv => whnf
  exact end_of [] (by rfl) (by rfl) (by rfl) (by exact ⟨rfl, rfl⟩)

theorem c_bp_74 (A B : Nat) (_hA : A < 18446744073709551616) (_hB : B < 18446744073709551616) : SpecD S 13 [.int .i64 74, .int .u64 (A : Int), .int .u64 (B : Int)] [] (.tup [.int .u64 (tr (decide ((IntKind.i64.wrap (IntKind.i32.wrap ((B % 4294967296 : Nat) : Int))) < (IntKind.i64.wrap (IntKind.i32.wrap ((A % 4294967296 : Nat) : Int)))))), .int .i64 0]) [] := by
  have k := c_bin_gt_s_32 (A : Int) (B : Int)
  rw [e32 A, e32 B] at k
  exact k

set_option maxRecDepth 100000 in
theorem c_rcmp_gt_s_32 (A B : Nat) (hA : A < 4294967296) (hB : B < 4294967296) : SpecD S 31 [.str n_gt_s, .int .u64 (A : Int), .int .u64 (B : Int), .int .i64 32] [] (.int .u64 (tr (decide ((IntKind.i64.wrap (IntKind.i32.wrap (B : Int))) < (IntKind.i64.wrap (IntKind.i32.wrap (A : Int))))))) [] := by
  refine specE ok sh31 rfl ?_
  conv => whnf
  refine call_of [] (c_rsN32 A hA) (by rfl) (by rfl) ?_
  conv => whnf
  refine call_of [] (c_rsN32 B hB) (by rfl) (by rfl) ?_
  conv => whnf
  refine call_of [] (c_rtruth (decide ((IntKind.i64.wrap (IntKind.i32.wrap (B : Int))) < (IntKind.i64.wrap (IntKind.i32.wrap (A : Int)))))) (by rfl) (by rfl) ?_
  conv => whnf
  exact end_of [] (by rfl) (by rfl) (by rfl) (by exact ⟨rfl, rfl⟩)

set_option maxRecDepth 100000 in
theorem c_rb_74 (A B : Nat) (_hA : A < 18446744073709551616) (_hB : B < 18446744073709551616) : SpecD S 15 [.int .i64 74, .int .u64 (A : Int), .int .u64 (B : Int)] [] (.tup [.int .u64 (tr (decide ((IntKind.i64.wrap (IntKind.i32.wrap ((B % 4294967296 : Nat) : Int))) < (IntKind.i64.wrap (IntKind.i32.wrap ((A % 4294967296 : Nat) : Int)))))), .int .i64 0]) [] := by
  have c := c_refName 74
  rw [r_74] at c
  have hA1 : A % 4294967296 < 4294967296 := Nat.mod_lt _ (by decide)
  have hB1 : B % 4294967296 < 4294967296 := Nat.mod_lt _ (by decide)
  refine specE ok sh15 rfl ?_
  conv => whnf
  refine call_of [] (c_bits_74) (by rfl) (by rfl) ?_
  conv => whnf
  refine call_of [] (c_rcN32 A) (by rfl) (by rfl) ?_
  conv => whnf
  refine call_of [] (c_rcN32 B) (by rfl) (by rfl) ?_
  conv => whnf
  refine call_of [] (c) (by rfl) (by rfl) ?_
  conv => whnf
  refine call_of [] (c_test_74) (by rfl) (by rfl) ?_
  conv => whnf
  refine call_of [] (c_rcmp_gt_s_32 (A % 4294967296) (B % 4294967296) hA1 hB1) (by rfl) (by rfl) ?_
  conv => whnf
  exact end_of [] (by rfl) (by rfl) (by rfl) (by exact ⟨rfl, rfl⟩)

theorem c_bp_75 (A B : Nat) (_hA : A < 18446744073709551616) (_hB : B < 18446744073709551616) : SpecD S 13 [.int .i64 75, .int .u64 (A : Int), .int .u64 (B : Int)] [] (.tup [.int .u64 (tr (decide (((B % 4294967296 : Nat) : Int) < ((A % 4294967296 : Nat) : Int)))), .int .i64 0]) [] := by
  have k := c_bin_gt_u_32 (A : Int) (B : Int)
  rw [e32 A, e32 B] at k
  exact k

set_option maxRecDepth 100000 in
theorem c_rcmp_gt_u_32 (A B : Nat) (hA : A < 4294967296) (hB : B < 4294967296) : SpecD S 31 [.str n_gt_u, .int .u64 (A : Int), .int .u64 (B : Int), .int .i64 32] [] (.int .u64 (tr (decide ((B : Int) < (A : Int))))) [] := by
  refine specE ok sh31 rfl ?_
  conv => whnf
  refine call_of [] (c_rsN32 A hA) (by rfl) (by rfl) ?_
  conv => whnf
  refine call_of [] (c_rsN32 B hB) (by rfl) (by rfl) ?_
  conv => whnf
  refine call_of [] (c_rtruth (decide ((B : Int) < (A : Int)))) (by rfl) (by rfl) ?_
  conv => whnf
  exact end_of [] (by rfl) (by rfl) (by rfl) (by exact ⟨rfl, rfl⟩)

set_option maxRecDepth 100000 in
theorem c_rb_75 (A B : Nat) (_hA : A < 18446744073709551616) (_hB : B < 18446744073709551616) : SpecD S 15 [.int .i64 75, .int .u64 (A : Int), .int .u64 (B : Int)] [] (.tup [.int .u64 (tr (decide (((B % 4294967296 : Nat) : Int) < ((A % 4294967296 : Nat) : Int)))), .int .i64 0]) [] := by
  have c := c_refName 75
  rw [r_75] at c
  have hA1 : A % 4294967296 < 4294967296 := Nat.mod_lt _ (by decide)
  have hB1 : B % 4294967296 < 4294967296 := Nat.mod_lt _ (by decide)
  refine specE ok sh15 rfl ?_
  conv => whnf
  refine call_of [] (c_bits_75) (by rfl) (by rfl) ?_
  conv => whnf
  refine call_of [] (c_rcN32 A) (by rfl) (by rfl) ?_
  conv => whnf
  refine call_of [] (c_rcN32 B) (by rfl) (by rfl) ?_
  conv => whnf
  refine call_of [] (c) (by rfl) (by rfl) ?_
  conv => whnf
  refine call_of [] (c_test_75) (by rfl) (by rfl) ?_
  conv => whnf
  refine call_of [] (c_rcmp_gt_u_32 (A % 4294967296) (B % 4294967296) hA1 hB1) (by rfl) (by rfl) ?_
  conv => whnf
  exact end_of [] (by rfl) (by rfl) (by rfl) (by exact ⟨rfl, rfl⟩)

theorem c_bp_76 (A B : Nat) (_hA : A < 18446744073709551616) (_hB : B < 18446744073709551616) : SpecD S 13 [.int .i64 76, .int .u64 (A : Int), .int .u64 (B : Int)] [] (.tup [.int .u64 (tr (decide ((IntKind.i64.wrap (IntKind.i32.wrap ((A % 4294967296 : Nat) : Int))) ≤ (IntKind.i64.wrap (IntKind.i32.wrap ((B % 4294967296 : Nat) : Int)))))), .int .i64 0]) [] := by
  have k := c_bin_le_s_32 (A : Int) (B : Int)
  rw [e32 A, e32 B] at k
  exact k

set_option maxRecDepth 100000 in
theorem c_rcmp_le_s_32 (A B : Nat) (hA : A < 4294967296) (hB : B < 4294967296) : SpecD S 31 [.str n_le_s, .int .u64 (A : Int), .int .u64 (B : Int), .int .i64 32] [] (.int .u64 (tr (decide ((IntKind.i64.wrap (IntKind.i32.wrap (A : Int))) ≤ (IntKind.i64.wrap (IntKind.i32.wrap (B : Int))))))) [] := by
  refine specE ok sh31 rfl ?_
  conv => whnf
  refine call_of [] (c_rsN32 A hA) (by rfl) (by rfl) ?_
  conv => whnf
  refine call_of [] (c_rsN32 B hB) (by rfl) (by rfl) ?_
  conv => whnf
  refine call_of [] (c_rtruth (decide ((IntKind.i64.wrap (IntKind.i32.wrap (A : Int))) ≤ (IntKind.i64.wrap (IntKind.i32.wrap (B : Int)))))) (by rfl) (by rfl) ?_
  conv => whnf
  exact end_of [] (by rfl) (by rfl) (by rfl) (by exact ⟨rfl, rfl⟩)

set_option maxRecDepth 100000 in
theorem c_rb_76 (A B : Nat) (_hA : A < 18446744073709551616) (_hB : B < 18446744073709551616) : SpecD S 15 [.int .i64 76, .int .u64 (A : Int), .int .u64 (B : Int)] [] (.tup [.int .u64 (tr (decide ((IntKind.i64.wrap (IntKind.i32.wrap ((A % 4294967296 : Nat) : Int))) ≤ (IntKind.i64.wrap (IntKind.i32.wrap ((B % 4294967296 : Nat) : Int)))))), .int .i64 0]) [] := by
  have c := c_refName 76
  rw [r_76] at c
  have hA1 : A % 4294967296 < 4294967296 := Nat.mod_lt _ (by decide)
  have hB1 : B % 4294967296 < 4294967296 := Nat.mod_lt _ (by decide)
  refine specE ok sh15 rfl ?_
  conv => whnf
  refine call_of [] (c_bits_76) (by rfl) (by rfl) ?_
  conv => whnf
  refine call_of [] (c_rcN32 A) (by rfl) (by rfl) ?_
  conv => whnf
  refine call_of [] (c_rcN32 B) (by rfl) (by rfl) ?_
  conv => whnf
  refine call_of [] (c) (by rfl) (by rfl) ?_
  conv => whnf
  refine call_of [] (c_test_76) (by rfl) (by rfl) ?_
  conv => whnf
  refine call_of [] (c_rcmp_le_s_32 (A % 4294967296) (B % 4294967296) hA1 hB1) (by rfl) (by rfl) ?_
  conv => whnf
  exact end_of [] (by rfl) (by rfl) (by rfl) (by exact ⟨rfl, rfl⟩)

theorem c_bp_77 (A B : Nat) (_hA : A < 18446744073709551616) (_hB : B < 18446744073709551616) : SpecD S 13 [.int .i64 77, .int .u64 (A : Int), .int .u64 (B : Int)] [] (.tup [.int .u64 (tr (decide (((A % 4294967296 : Nat) : Int) ≤ ((B % 4294967296 : Nat) : Int)))), .int .i64 0]) [] := by
  have k := c_bin_le_u_32 (A : Int) (B : Int)
  rw [e32 A, e32 B] at k
  exact k

set_option maxRecDepth 100000 in
theorem c_rcmp_le_u_32 (A B : Nat) (hA : A < 4294967296) (hB : B < 4294967296) : SpecD S 31 [.str n_le_u, .int .u64 (A : Int), .int .u64 (B : Int), .int .i64 32] [] (.int .u64 (tr (decide ((A : Int) ≤ (B : Int))))) [] := by
  refine specE ok sh31 rfl ?_
  conv => whnf
  refine call_of [] (c_rsN32 A hA) (by rfl) (by rfl) ?_
  conv => whnf
  refine call_of [] (c_rsN32 B hB) (by rfl) (by rfl) ?_
  conv => whnf
  refine call_of [] (c_rtruth (decide ((A : Int) ≤ (B : Int)))) (by rfl) (by rfl) ?_
  conv => whnf
  exact end_of [] (by rfl) (by rfl) (by rfl) (by exact ⟨rfl, rfl⟩)

set_option maxRecDepth 100000 in
theorem c_rb_77 (A B : Nat) (_hA : A < 18446744073709551616) (_hB : B < 18446744073709551616) : SpecD S 15 [.int .i64 77, .int .u64 (A : Int), .int .u64 (B : Int)] [] (.tup [.int .u64 (tr (decide (((A % 4294967296 : Nat) : Int) ≤ ((B % 4294967296 : Nat) : Int)))), .int .i64 0]) [] := by
  have c := c_refName 77
  rw [r_77] at c
  have hA1 : A % 4294967296 < 4294967296 := Nat.mod_lt _ (by decide)
  have hB1 : B % 4294967296 < 4294967296 := Nat.mod_lt _ (by decide)
  refine specE ok sh15 rfl ?_
  conv => whnf
  refine call_of [] (c_bits_77) (by rfl) (by rfl) ?_
  conv => whnf
  refine call_of [] (c_rcN32 A) (by rfl) (by rfl) ?_
  conv => whnf
  refine call_of [] (c_rcN32 B) (by rfl) (by rfl) ?_
  conv => whnf
  refine call_of [] (c) (by rfl) (by rfl) ?_
  conv => whnf
  refine call_of [] (c_test_77) (by rfl) (by rfl) ?_
  conv => whnf
  refine call_of [] (c_rcmp_le_u_32 (A % 4294967296) (B % 4294967296) hA1 hB1) (by rfl) (by rfl) ?_
  conv => whnf
  exact end_of [] (by rfl) (by rfl) (by rfl) (by exact ⟨rfl, rfl⟩)

theorem c_bp_78 (A B : Nat) (_hA : A < 18446744073709551616) (_hB : B < 18446744073709551616) : SpecD S 13 [.int .i64 78, .int .u64 (A : Int), .int .u64 (B : Int)] [] (.tup [.int .u64 (tr (decide ((IntKind.i64.wrap (IntKind.i32.wrap ((B % 4294967296 : Nat) : Int))) ≤ (IntKind.i64.wrap (IntKind.i32.wrap ((A % 4294967296 : Nat) : Int)))))), .int .i64 0]) [] := by
  have k := c_bin_ge_s_32 (A : Int) (B : Int)
  rw [e32 A, e32 B] at k
  exact k

set_option maxRecDepth 100000 in
theorem c_rcmp_ge_s_32 (A B : Nat) (hA : A < 4294967296) (hB : B < 4294967296) : SpecD S 31 [.str n_ge_s, .int .u64 (A : Int), .int .u64 (B : Int), .int .i64 32] [] (.int .u64 (tr (decide ((IntKind.i64.wrap (IntKind.i32.wrap (B : Int))) ≤ (IntKind.i64.wrap (IntKind.i32.wrap (A : Int))))))) [] := by
  refine specE ok sh31 rfl ?_
  conv => whnf
  refine call_of [] (c_rsN32 A hA) (by rfl) (by rfl) ?_
  conv => whnf
  refine call_of [] (c_rsN32 B hB) (by rfl) (by rfl) ?_
  conv => whnf
  refine call_of [] (c_rtruth (decide ((IntKind.i64.wrap (IntKind.i32.wrap (B : Int))) ≤ (IntKind.i64.wrap (IntKind.i32.wrap (A : Int)))))) (by rfl) (by rfl) ?_
  conv => whnf
  exact end_of [] (by rfl) (by rfl) (by rfl) (by exact ⟨rfl, rfl⟩)

set_option maxRecDepth 100000 in
theorem c_rb_78 (A B : Nat) (_hA : A < 18446744073709551616) (_hB : B < 18446744073709551616) : SpecD S 15 [.int .i64 78, .int .u64 (A : Int), .int .u64 (B : Int)] [] (.tup [.int .u64 (tr (decide ((IntKind.i64.wrap (IntKind.i32.wrap ((B % 4294967296 : Nat) : Int))) ≤ (IntKind.i64.wrap (IntKind.i32.wrap ((A % 4294967296 : Nat) : Int)))))), .int .i64 0]) [] := by
  have c := c_refName 78
  rw [r_78] at c
  have hA1 : A % 4294967296 < 4294967296 := Nat.mod_lt _ (by decide)
  have hB1 : B % 4294967296 < 4294967296 := Nat.mod_lt _ (by decide)
  refine specE ok sh15 rfl ?_
  conv => whnf
  refine call_of [] (c_bits_78) (by rfl) (by rfl) ?_
  conv => whnf
  refine call_of [] (c_rcN32 A) (by rfl) (by rfl) ?_
  conv => whnf
  refine call_of [] (c_rcN32 B) (by rfl) (by rfl) ?_
  conv => whnf
  refine call_of [] (c) (by rfl) (by rfl) ?_
  conv => whnf
  refine call_of [] (c_test_78) (by rfl) (by rfl) ?_
  conv => whnf
  refine call_of [] (c_rcmp_ge_s_32 (A % 4294967296) (B % 4294967296) hA1 hB1) (by rfl) (by rfl) ?_
  conv => whnf
  exact end_of [] (by rfl) (by rfl) (by rfl) (by exact ⟨rfl, rfl⟩)

theorem c_bp_79 (A B : Nat) (_hA : A < 18446744073709551616) (_hB : B < 18446744073709551616) : SpecD S 13 [.int .i64 79, .int .u64 (A : Int), .int .u64 (B : Int)] [] (.tup [.int .u64 (tr (decide (((B % 4294967296 : Nat) : Int) ≤ ((A % 4294967296 : Nat) : Int)))), .int .i64 0]) [] := by
  have k := c_bin_ge_u_32 (A : Int) (B : Int)
  rw [e32 A, e32 B] at k
  exact k

set_option maxRecDepth 100000 in
theorem c_rcmp_ge_u_32 (A B : Nat) (hA : A < 4294967296) (hB : B < 4294967296) : SpecD S 31 [.str n_ge_u, .int .u64 (A : Int), .int .u64 (B : Int), .int .i64 32] [] (.int .u64 (tr (decide ((B : Int) ≤ (A : Int))))) [] := by
  refine specE ok sh31 rfl ?_
  conv => whnf
  refine call_of [] (c_rsN32 A hA) (by rfl) (by rfl) ?_
  conv => whnf
  refine call_of [] (c_rsN32 B hB) (by rfl) (by rfl) ?_
  conv => whnf
  refine call_of [] (c_rtruth (decide ((B : Int) ≤ (A : Int)))) (by rfl) (by rfl) ?_
  conv => whnf
  exact end_of [] (by rfl) (by rfl) (by rfl) (by exact ⟨rfl, rfl⟩)

set_option maxRecDepth 100000 in
theorem c_rb_79 (A B : Nat) (_hA : A < 18446744073709551616) (_hB : B < 18446744073709551616) : SpecD S 15 [.int .i64 79, .int .u64 (A : Int), .int .u64 (B : Int)] [] (.tup [.int .u64 (tr (decide (((B % 4294967296 : Nat) : Int) ≤ ((A % 4294967296 : Nat) : Int)))), .int .i64 0]) [] := by
  have c := c_refName 79
  rw [r_79] at c
  have hA1 : A % 4294967296 < 4294967296 := Nat.mod_lt _ (by decide)
  have hB1 : B % 4294967296 < 4294967296 := Nat.mod_lt _ (by decide)
  refine specE ok sh15 rfl ?_
  conv => whnf
  refine call_of [] (c_bits_79) (by rfl) (by rfl) ?_
  conv => whnf
  refine call_of [] (c_rcN32 A) (by rfl) (by rfl) ?_
  conv => whnf
  refine call_of [] (c_rcN32 B) (by rfl) (by rfl) ?_
  conv => whnf
  refine call_of [] (c) (by rfl) (by rfl) ?_
  conv => whnf
  refine call_of [] (c_test_79) (by rfl) (by rfl) ?_
  conv => whnf
  refine call_of [] (c_rcmp_ge_u_32 (A % 4294967296) (B % 4294967296) hA1 hB1) (by rfl) (by rfl) ?_
  conv => whnf
  exact end_of [] (by rfl) (by rfl) (by rfl) (by exact ⟨rfl, rfl⟩)

theorem c_bp_81 (A B : Nat) (_hA : A < 18446744073709551616) (_hB : B < 18446744073709551616) : SpecD S 13 [.int .i64 81, .int .u64 (A : Int), .int .u64 (B : Int)] [] (.tup [.int .u64 (tr ((A : Int) == (B : Int))), .int .i64 0]) [] := by
  have k := c_bin_eq_64 (A : Int) (B : Int)
  exact k

set_option maxRecDepth 100000 in
theorem c_rcmp_eq_64 (A B : Nat) (hA : A < 18446744073709551616) (hB : B < 18446744073709551616) : SpecD S 31 [.str n_eq, .int .u64 (A : Int), .int .u64 (B : Int), .int .i64 64] [] (.int .u64 (tr ((A : Int) == (B : Int)))) [] := by
  refine specE ok sh31 rfl ?_
  conv => whnf
  refine call_of [] (c_rsN64 A hA) (by rfl) (by rfl) ?_
  conv => whnf
  refine call_of [] (c_rsN64 B hB) (by rfl) (by rfl) ?_
  conv => whnf
  refine call_of [] (c_rtruth ((A : Int) == (B : Int))) (by rfl) (by rfl) ?_
  conv => whnf
  exact end_of [] (by rfl) (by rfl) (by rfl) (by exact ⟨rfl, rfl⟩)

set_option maxRecDepth 100000 in
theorem c_rb_81 (A B : Nat) (hA : A < 18446744073709551616) (hB : B < 18446744073709551616) : SpecD S 15 [.int .i64 81, .int .u64 (A : Int), .int .u64 (B : Int)] [] (.tup [.int .u64 (tr ((A : Int) == (B : Int))), .int .i64 0]) [] := by
  have c := c_refName 81
  rw [r_81] at c
  have hA1 := hA
  have hB1 := hB
  refine specE ok sh15 rfl ?_
  conv => whnf
  refine call_of [] (c_bits_81) (by rfl) (by rfl) ?_
  conv => whnf
  refine call_of [] (c_rcN64 A) (by rfl) (by rfl) ?_
  conv => whnf
  refine call_of [] (c_rcN64 B) (by rfl) (by rfl) ?_
  conv => whnf
  refine call_of [] (c) (by rfl) (by rfl) ?_
  conv => whnf
  refine call_of [] (c_test_81) (by rfl) (by rfl) ?_
  conv => whnf
  refine call_of [] (c_rcmp_eq_64 A B hA1 hB1) (by rfl) (by rfl) ?_
  conv => whnf
  exact end_of [] (by rfl) (by rfl) (by rfl) (by exact ⟨rfl, rfl⟩)

theorem c_bp_82 (A B : Nat) (_hA : A < 18446744073709551616) (_hB : B < 18446744073709551616) : SpecD S 13 [.int .i64 82, .int .u64 (A : Int), .int .u64 (B : Int)] [] (.tup [.int .u64 (tr ((A : Int) != (B : Int))), .int .i64 0]) [] := by
  have k := c_bin_ne_64 (A : Int) (B : Int)
  exact k

set_option maxRecDepth 100000 in
theorem c_rcmp_ne_64 (A B : Nat) (hA : A < 18446744073709551616) (hB : B < 18446744073709551616) : SpecD S 31 [.str n_ne, .int .u64 (A : Int), .int .u64 (B : Int), .int .i64 64] [] (.int .u64 (tr ((A : Int) != (B : Int)))) [] := by
  refine specE ok sh31 rfl ?_
  conv => whnf
  refine call_of [] (c_rsN64 A hA) (by rfl) (by rfl) ?_
  conv => whnf
  refine call_of [] (c_rsN64 B hB) (by rfl) (by rfl) ?_
  conv => whnf
  refine call_of [] (c_rtruth ((A : Int) != (B : Int))) (by rfl) (by rfl) ?_
  conv => whnf
  exact end_of [] (by rfl) (by rfl) (by rfl) (by exact ⟨rfl, rfl⟩)

set_option maxRecDepth 100000 in
theorem c_rb_82 (A B : Nat) (hA : A < 18446744073709551616) (hB : B < 18446744073709551616) : SpecD S 15 [.int .i64 82, .int .u64 (A : Int), .int .u64 (B : Int)] [] (.tup [.int .u64 (tr ((A : Int) != (B : Int))), .int .i64 0]) [] := by
  have c := c_refName 82
  rw [r_82] at c
  have hA1 := hA
  have hB1 := hB
  refine specE ok sh15 rfl ?_
  conv => whnf
  refine call_of [] (c_bits_82) (by rfl) (by rfl) ?_
  conv => whnf
  refine call_of [] (c_rcN64 A) (by rfl) (by rfl) ?_
  conv => whnf
  refine call_of [] (c_rcN64 B) (by rfl) (by rfl) ?_
  conv => whnf
  refine call_of [] (c) (by rfl) (by rfl) ?_
  conv => whnf
  refine call_of [] (c_test_82) (by rfl) (by rfl) ?_
  conv => whnf
  refine call_of [] (c_rcmp_ne_64 A B hA1 hB1) (by rfl) (by rfl) ?_
  conv => whnf
  exact end_of [] (by rfl) (by rfl) (by rfl) (by exact ⟨rfl, rfl⟩)

theorem c_bp_83 (A B : Nat) (_hA : A < 18446744073709551616) (_hB : B < 18446744073709551616) : SpecD S 13 [.int .i64 83, .int .u64 (A : Int), .int .u64 (B : Int)] [] (.tup [.int .u64 (tr (decide ((IntKind.i64.wrap (A : Int)) < (IntKind.i64.wrap (B : Int))))), .int .i64 0]) [] := by
  have k := c_bin_lt_s_64 (A : Int) (B : Int)
  exact k

set_option maxRecDepth 100000 in
theorem c_rcmp_lt_s_64 (A B : Nat) (hA : A < 18446744073709551616) (hB : B < 18446744073709551616) : SpecD S 31 [.str n_lt_s, .int .u64 (A : Int), .int .u64 (B : Int), .int .i64 64] [] (.int .u64 (tr (decide ((IntKind.i64.wrap (A : Int)) < (IntKind.i64.wrap (B : Int)))))) [] := by
  refine specE ok sh31 rfl ?_
  conv => whnf
  refine call_of [] (c_rsN64 A hA) (by rfl) (by rfl) ?_
  conv => whnf
  refine call_of [] (c_rsN64 B hB) (by rfl) (by rfl) ?_
  conv => whnf
  refine call_of [] (c_rtruth (decide ((IntKind.i64.wrap (A : Int)) < (IntKind.i64.wrap (B : Int))))) (by rfl) (by rfl) ?_
  conv => whnf
  exact end_of [] (by rfl) (by rfl) (by rfl) (by exact ⟨rfl, rfl⟩)

set_option maxRecDepth 100000 in
theorem c_rb_83 (A B : Nat) (hA : A < 18446744073709551616) (hB : B < 18446744073709551616) : SpecD S 15 [.int .i64 83, .int .u64 (A : Int), .int .u64 (B : Int)] [] (.tup [.int .u64 (tr (decide ((IntKind.i64.wrap (A : Int)) < (IntKind.i64.wrap (B : Int))))), .int .i64 0]) [] := by
  have c := c_refName 83
  rw [r_83] at c
  have hA1 := hA
  have hB1 := hB
  refine specE ok sh15 rfl ?_
  conv => whnf
  refine call_of [] (c_bits_83) (by rfl) (by rfl) ?_
  conv => whnf
  refine call_of [] (c_rcN64 A) (by rfl) (by rfl) ?_
  conv => whnf
  refine call_of [] (c_rcN64 B) (by rfl) (by rfl) ?_
  conv => whnf
  refine call_of [] (c) (by rfl) (by rfl) ?_
  conv => whnf
  refine call_of [] (c_test_83) (by rfl) (by rfl) ?_
  conv => whnf
  refine call_of [] (c_rcmp_lt_s_64 A B hA1 hB1) (by rfl) (by rfl) ?_
  conv => whnf
  exact end_of [] (by rfl) (by rfl) (by rfl) (by exact ⟨rfl, rfl⟩)

theorem c_bp_84 (A B : Nat) (_hA : A < 18446744073709551616) (_hB : B < 18446744073709551616) : SpecD S 13 [.int .i64 84, .int .u64 (A : Int), .int .u64 (B : Int)] [] (.tup [.int .u64 (tr (decide ((A : Int) < (B : Int)))), .int .i64 0]) [] := by
  have k := c_bin_lt_u_64 (A : Int) (B : Int)
  exact k

set_option maxRecDepth 100000 in
theorem c_rcmp_lt_u_64 (A B : Nat) (hA : A < 18446744073709551616) (hB : B < 18446744073709551616) : SpecD S 31 [.str n_lt_u, .int .u64 (A : Int), .int .u64 (B : Int), .int .i64 64] [] (.int .u64 (tr (decide ((A : Int) < (B : Int))))) [] := by
  refine specE ok sh31 rfl ?_
  conv => whnf
  refine call_of [] (c_rsN64 A hA) (by rfl) (by rfl) ?_
  conv => whnf
  refine call_of [] (c_rsN64 B hB) (by rfl) (by rfl) ?_
  conv => whnf
  refine call_of [] (c_rtruth (decide ((A : Int) < (B : Int)))) (by rfl) (by rfl) ?_
  conv => whnf
  exact end_of [] (by rfl) (by rfl) (by rfl) (by exact ⟨rfl, rfl⟩)

set_option maxRecDepth 100000 in
theorem c_rb_84 (A B : Nat) (hA : A < 18446744073709551616) (hB : B < 18446744073709551616) : SpecD S 15 [.int .i64 84, .int .u64 (A : Int), .int .u64 (B : Int)] [] (.tup [.int .u64 (tr (decide ((A : Int) < (B : Int)))), .int .i64 0]) [] := by
  have c := c_refName 84
  rw [r_84] at c
  have hA1 := hA
  have hB1 := hB
  refine specE ok sh15 rfl ?_
  conv => whnf
  refine call_of [] (c_bits_84) (by rfl) (by rfl) ?_
  conv => whnf
  refine call_of [] (c_rcN64 A) (by rfl) (by rfl) ?_
  conv => whnf
  refine call_of [] (c_rcN64 B) (by rfl) (by rfl) ?_
  conv => whnf
  refine call_of [] (c) (by rfl) (by rfl) ?_
  conv => whnf
  refine call_of [] (c_test_84) (by rfl) (by rfl) ?_
  conv => whnf
  refine call_of [] (c_rcmp_lt_u_64 A B hA1 hB1) (by rfl) (by rfl) ?_
  conv => whnf
  exact end_of [] (by rfl) (by rfl) (by rfl) (by exact ⟨rfl, rfl⟩)

theorem c_bp_85 (A B : Nat) (_hA : A < 18446744073709551616) (_hB : B < 18446744073709551616) : SpecD S 13 [.int .i64 85, .int .u64 (A : Int), .int .u64 (B : Int)] [] (.tup [.int .u64 (tr (decide ((IntKind.i64.wrap (B : Int)) < (IntKind.i64.wrap (A : Int))))), .int .i64 0]) [] := by
  have k := c_bin_gt_s_64 (A : Int) (B : Int)
  exact k

set_option maxRecDepth 100000 in
theorem c_rcmp_gt_s_64 (A B : Nat) (hA : A < 18446744073709551616) (hB : B < 18446744073709551616) : SpecD S 31 [.str n_gt_s, .int .u64 (A : Int), .int .u64 (B : Int), .int .i64 64] [] (.int .u64 (tr (decide ((IntKind.i64.wrap (B : Int)) < (IntKind.i64.wrap (A : Int)))))) [] := by
  refine specE ok sh31 rfl ?_
  conv => whnf
  refine call_of [] (c_rsN64 A hA) (by rfl) (by rfl) ?_
  conv => whnf
  refine call_of [] (c_rsN64 B hB) (by rfl) (by rfl) ?_
  conv => whnf
  refine call_of [] (c_rtruth (decide ((IntKind.i64.wrap (B : Int)) < (IntKind.i64.wrap (A : Int))))) (by rfl) (by rfl) ?_
  conv => whnf
  exact end_of [] (by rfl) (by rfl) (by rfl) (by exact ⟨rfl, rfl⟩)

set_option maxRecDepth 100000 in
theorem c_rb_85 (A B : Nat) (hA : A < 18446744073709551616) (hB : B < 18446744073709551616) : SpecD S 15 [.int .i64 85, .int .u64 (A : Int), .int .u64 (B : Int)] [] (.tup [.int .u64 (tr (decide ((IntKind.i64.wrap (B : Int)) < (IntKind.i64.wrap (A : Int))))), .int .i64 0]) [] := by
  have c := c_refName 85
  rw [r_85] at c
  have hA1 := hA
  have hB1 := hB
  refine specE ok sh15 rfl ?_
  conv => whnf
  refine call_of [] (c_bits_85) (by rfl) (by rfl) ?_
  conv => whnf
  refine call_of [] (c_rcN64 A) (by rfl) (by rfl) ?_
  conv => whnf
  refine call_of [] (c_rcN64 B) (by rfl) (by rfl) ?_
  conv => whnf
  refine call_of [] (c) (by rfl) (by rfl) ?_
  conv => whnf
  refine call_of [] (c_test_85) (by rfl) (by rfl) ?_
  conv => whnf
  refine call_of [] (c_rcmp_gt_s_64 A B hA1 hB1) (by rfl) (by rfl) ?_
  conv => whnf
  exact end_of [] (by rfl) (by rfl) (by rfl) (by exact ⟨rfl, rfl⟩)

theorem c_bp_86 (A B : Nat) (_hA : A < 18446744073709551616) (_hB : B < 18446744073709551616) : SpecD S 13 [.int .i64 86, .int .u64 (A : Int), .int .u64 (B : Int)] [] (.tup [.int .u64 (tr (decide ((B : Int) < (A : Int)))), .int .i64 0]) [] := by
  have k := c_bin_gt_u_64 (A : Int) (B : Int)
  exact k

set_option maxRecDepth 100000 in
theorem c_rcmp_gt_u_64 (A B : Nat) (hA : A < 18446744073709551616) (hB : B < 18446744073709551616) : SpecD S 31 [.str n_gt_u, .int .u64 (A : Int), .int .u64 (B : Int), .int .i64 64] [] (.int .u64 (tr (decide ((B : Int) < (A : Int))))) [] := by
  refine specE ok sh31 rfl ?_
  conv => whnf
  refine call_of [] (c_rsN64 A hA) (by rfl) (by rfl) ?_
  conv => whnf
  refine call_of [] (c_rsN64 B hB) (by rfl) (by rfl) ?_
  conv => whnf
  refine call_of [] (c_rtruth (decide ((B : Int) < (A : Int)))) (by rfl) (by rfl) ?_
  conv => whnf
  exact end_of [] (by rfl) (by rfl) (by rfl) (by exact ⟨rfl, rfl⟩)

set_option maxRecDepth 100000 in
theorem c_rb_86 (A B : Nat) (hA : A < 18446744073709551616) (hB : B < 18446744073709551616) : SpecD S 15 [.int .i64 86, .int .u64 (A : Int), .int .u64 (B : Int)] [] (.tup [.int .u64 (tr (decide ((B : Int) < (A : Int)))), .int .i64 0]) [] := by
  have c := c_refName 86
  rw [r_86] at c
  have hA1 := hA
  have hB1 := hB
  refine specE ok sh15 rfl ?_
  conv => whnf
  refine call_of [] (c_bits_86) (by rfl) (by rfl) ?_
  conv => whnf
  refine call_of [] (c_rcN64 A) (by rfl) (by rfl) ?_
  conv => whnf
  refine call_of [] (c_rcN64 B) (by rfl) (by rfl) ?_
  conv => whnf
  refine call_of [] (c) (by rfl) (by rfl) ?_
  conv => whnf
  refine call_of [] (c_test_86) (by rfl) (by rfl) ?_
  conv => whnf
  refine call_of [] (c_rcmp_gt_u_64 A B hA1 hB1) (by rfl) (by rfl) ?_
  conv => whnf
  exact end_of [] (by rfl) (by rfl) (by rfl) (by exact ⟨rfl, rfl⟩)

theorem c_bp_87 (A B : Nat) (_hA : A < 18446744073709551616) (_hB : B < 18446744073709551616) : SpecD S 13 [.int .i64 87, .int .u64 (A : Int), .int .u64 (B : Int)] [] (.tup [.int .u64 (tr (decide ((IntKind.i64.wrap (A : Int)) ≤ (IntKind.i64.wrap (B : Int))))), .int .i64 0]) [] := by
  have k := c_bin_le_s_64 (A : Int) (B : Int)
  exact k

set_option maxRecDepth 100000 in
theorem c_rcmp_le_s_64 (A B : Nat) (hA : A < 18446744073709551616) (hB : B < 18446744073709551616) : SpecD S 31 [.str n_le_s, .int .u64 (A : Int), .int .u64 (B : Int), .int .i64 64] [] (.int .u64 (tr (decide ((IntKind.i64.wrap (A : Int)) ≤ (IntKind.i64.wrap (B : Int)))))) [] := by
  refine specE ok sh31 rfl ?_
  conv => whnf
  refine call_of [] (c_rsN64 A hA) (by rfl) (by rfl) ?_
  conv => whnf
  refine call_of [] (c_rsN64 B hB) (by rfl) (by rfl) ?_
  conv => whnf
  refine call_of [] (c_rtruth (decide ((IntKind.i64.wrap (A : Int)) ≤ (IntKind.i64.wrap (B : Int))))) (by rfl) (by rfl) ?_
  conv => whnf
  exact end_of [] (by rfl) (by rfl) (by rfl) (by exact ⟨rfl, rfl⟩)

set_option maxRecDepth 100000 in
theorem c_rb_87 (A B : Nat) (hA : A < 18446744073709551616) (hB : B < 18446744073709551616) : SpecD S 15 [.int .i64 87, .int .u64 (A : Int), .int .u64 (B : Int)] [] (.tup [.int .u64 (tr (decide ((IntKind.i64.wrap (A : Int)) ≤ (IntKind.i64.wrap (B : Int))))), .int .i64 0]) [] := by
  have c := c_refName 87
  rw [r_87] at c
  have hA1 := hA
  have hB1 := hB
  refine specE ok sh15 rfl ?_
  conv => whnf
  refine call_of [] (c_bits_87) (by rfl) (by rfl) ?_
  conv => whnf
  refine call_of [] (c_rcN64 A) (by rfl) (by rfl) ?_
  conv => whnf
  refine call_of [] (c_rcN64 B) (by rfl) (by rfl) ?_
  conv => whnf
  refine call_of [] (c) (by rfl) (by rfl) ?_
  conv => whnf
  refine call_of [] (c_test_87) (by rfl) (by rfl) ?_
  conv => whnf
  refine call_of [] (c_rcmp_le_s_64 A B hA1 hB1) (by rfl) (by rfl) ?_
  conv => whnf
  exact end_of [] (by rfl) (by rfl) (by rfl) (by exact ⟨rfl, rfl⟩)

theorem c_bp_88 (A B : Nat) (_hA : A < 18446744073709551616) (_hB : B < 18446744073709551616) : SpecD S 13 [.int .i64 88, .int .u64 (A : Int), .int .u64 (B : Int)] [] (.tup [.int .u64 (tr (decide ((A : Int) ≤ (B : Int)))), .int .i64 0]) [] := by
  have k := c_bin_le_u_64 (A : Int) (B : Int)
  exact k

set_option maxRecDepth 100000 in
theorem c_rcmp_le_u_64 (A B : Nat) (hA : A < 18446744073709551616) (hB : B < 18446744073709551616) : SpecD S 31 [.str n_le_u, .int .u64 (A : Int), .int .u64 (B : Int), .int .i64 64] [] (.int .u64 (tr (decide ((A : Int) ≤ (B : Int))))) [] := by
  refine specE ok sh31 rfl ?_
  conv => whnf
  refine call_of [] (c_rsN64 A hA) (by rfl) (by rfl) ?_
  conv => whnf
  refine call_of [] (c_rsN64 B hB) (by rfl) (by rfl) ?_
  conv => whnf
  refine call_of [] (c_rtruth (decide ((A : Int) ≤ (B : Int)))) (by rfl) (by rfl) ?_
  conv => whnf
  exact end_of [] (by rfl) (by rfl) (by rfl) (by exact ⟨rfl, rfl⟩)

set_option maxRecDepth 100000 in
theorem c_rb_88 (A B : Nat) (hA : A < 18446744073709551616) (hB : B < 18446744073709551616) : SpecD S 15 [.int .i64 88, .int .u64 (A : Int), .int .u64 (B : Int)] [] (.tup [.int .u64 (tr (decide ((A : Int) ≤ (B : Int)))), .int .i64 0]) [] := by
  have c := c_refName 88
  rw [r_88] at c
  have hA1 := hA
  have hB1 := hB
  refine specE ok sh15 rfl ?_
  conv => whnf
  refine call_of [] (c_bits_88) (by rfl) (by rfl) ?_
  conv => whnf
  refine call_of [] (c_rcN64 A) (by rfl) (by rfl) ?_
  conv => whnf
  refine call_of [] (c_rcN64 B) (by rfl) (by rfl) ?_
  conv => whnf
  refine call_of [] (c) (by rfl) (by rfl) ?_
  conv => whnf
  refine call_of [] (c_test_88) (by rfl) (by rfl) ?_
  conv => whnf
  refine call_of [] (c_rcmp_le_u_64 A B hA1 hB1) (by rfl) (by rfl) ?_
  conv => whnf
  exact end_of [] (by rfl) (by rfl) (by rfl) (by exact ⟨rfl, rfl⟩)

theorem c_bp_89 (A B : Nat) (_hA : A < 18446744073709551616) (_hB : B < 18446744073709551616) : SpecD S 13 [.int .i64 89, .int .u64 (A : Int), .int .u64 (B : Int)] [] (.tup [.int .u64 (tr (decide ((IntKind.i64.wrap (B : Int)) ≤ (IntKind.i64.wrap (A : Int))))), .int .i64 0]) [] := by
  have k := c_bin_ge_s_64 (A : Int) (B : Int)
  exact k

set_option maxRecDepth 100000 in
theorem c_rcmp_ge_s_64 (A B : Nat) (hA : A < 18446744073709551616) (hB : B < 18446744073709551616) : SpecD S 31 [.str n_ge_s, .int .u64 (A : Int), .int .u64 (B : Int), .int .i64 64] [] (.int .u64 (tr (decide ((IntKind.i64.wrap (B : Int)) ≤ (IntKind.i64.wrap (A : Int)))))) [] := by
  refine specE ok sh31 rfl ?_
  conv => whnf
  refine call_of [] (c_rsN64 A hA) (by rfl) (by rfl) ?_
  conv => whnf
  refine call_of [] (c_rsN64 B hB) (by rfl) (by rfl) ?_
  conv => whnf
  refine call_of [] (c_rtruth (decide ((IntKind.i64.wrap (B : Int)) ≤ (IntKind.i64.wrap (A : Int))))) (by rfl) (by rfl) ?_
  conv => whnf
  exact end_of [] (by rfl) (by rfl) (by rfl) (by exact ⟨rfl, rfl⟩)

set_option maxRecDepth 100000 in
theorem c_rb_89 (A B : Nat) (hA : A < 18446744073709551616) (hB : B < 18446744073709551616) : SpecD S 15 [.int .i64 89, .int .u64 (A : Int), .int .u64 (B : Int)] [] (.tup [.int .u64 (tr (decide ((IntKind.i64.wrap (B : Int)) ≤ (IntKind.i64.wrap (A : Int))))), .int .i64 0]) [] := by
  have c := c_refName 89
  rw [r_89] at c
  have hA1 := hA
  have hB1 := hB
  refine specE ok sh15 rfl ?_
  conv => whnf
  refine call_of [] (c_bits_89) (by rfl) (by rfl) ?_
  conv => whnf
  refine call_of [] (c_rcN64 A) (by rfl) (by rfl) ?_
  conv => whnf
  refine call_of [] (c_rcN64 B) (by rfl) (by rfl) ?_
  conv => whnf
  refine call_of [] (c) (by rfl) (by rfl) ?_
  conv => whnf
  refine call_of [] (c_test_89) (by rfl) (by rfl) ?_
  conv => whnf
  refine call_of [] (c_rcmp_ge_s_64 A B hA1 hB1) (by rfl) (by rfl) ?_
  conv => whnf
  exact end_of [] (by rfl) (by rfl) (by rfl) (by exact ⟨rfl, rfl⟩)

theorem c_bp_90 (A B : Nat) (_hA : A < 18446744073709551616) (_hB : B < 18446744073709551616) : SpecD S 13 [.int .i64 90, .int .u64 (A : Int), .int .u64 (B : Int)] [] (.tup [.int .u64 (tr (decide ((B : Int) ≤ (A : Int)))), .int .i64 0]) [] := by
  have k := c_bin_ge_u_64 (A : Int) (B : Int)
  exact k

set_option maxRecDepth 100000 in
theorem c_rcmp_ge_u_64 (A B : Nat) (hA : A < 18446744073709551616) (hB : B < 18446744073709551616) : SpecD S 31 [.str n_ge_u, .int .u64 (A : Int), .int .u64 (B : Int), .int .i64 64] [] (.int .u64 (tr (decide ((B : Int) ≤ (A : Int))))) [] := by
  refine specE ok sh31 rfl ?_
  conv => whnf
  refine call_of [] (c_rsN64 A hA) (by rfl) (by rfl) ?_
  conv => whnf
  refine call_of [] (c_rsN64 B hB) (by rfl) (by rfl) ?_
  conv => whnf
  refine call_of [] (c_rtruth (decide ((B : Int) ≤ (A : Int)))) (by rfl) (by rfl) ?_
  conv => whnf
  exact end_of [] (by rfl) (by rfl) (by rfl) (by exact ⟨rfl, rfl⟩)

set_option maxRecDepth 100000 in
theorem c_rb_90 (A B : Nat) (hA : A < 18446744073709551616) (hB : B < 18446744073709551616) : SpecD S 15 [.int .i64 90, .int .u64 (A : Int), .int .u64 (B : Int)] [] (.tup [.int .u64 (tr (decide ((B : Int) ≤ (A : Int)))), .int .i64 0]) [] := by
  have c := c_refName 90
  rw [r_90] at c
  have hA1 := hA
  have hB1 := hB
  refine specE ok sh15 rfl ?_
  conv => whnf
  refine call_of [] (c_bits_90) (by rfl) (by rfl) ?_
  conv => whnf
  refine call_of [] (c_rcN64 A) (by rfl) (by rfl) ?_
  conv => whnf
  refine call_of [] (c_rcN64 B) (by rfl) (by rfl) ?_
  conv => whnf
  refine call_of [] (c) (by rfl) (by rfl) ?_
  conv => whnf
  refine call_of [] (c_test_90) (by rfl) (by rfl) ?_
  conv => whnf
  refine call_of [] (c_rcmp_ge_u_64 A B hA1 hB1) (by rfl) (by rfl) ?_
  conv => whnf
  exact end_of [] (by rfl) (by rfl) (by rfl) (by exact ⟨rfl, rfl⟩)

theorem c_bp_106 (A B : Nat) (_hA : A < 18446744073709551616) (_hB : B < 18446744073709551616) : SpecD S 13 [.int .i64 106, .int .u64 (A : Int), .int .u64 (B : Int)] [] (.tup [.int .u64 (IntKind.u64.wrap (IntKind.u32.wrap (IntKind.u64.wrap (((A % 4294967296 : Nat) : Int) + ((B % 4294967296 : Nat) : Int))))), .int .i64 0]) [] := by
  have k := c_bin_add_32 (A : Int) (B : Int)
  rw [e32 A, e32 B] at k
  exact k

set_option maxRecDepth 100000 in
theorem c_rb_106 (A B : Nat) (_hA : A < 18446744073709551616) (_hB : B < 18446744073709551616) : SpecD S 15 [.int .i64 106, .int .u64 (A : Int), .int .u64 (B : Int)] [] (.tup [.int .u64 (IntKind.u64.wrap (IntKind.u32.wrap (IntKind.u64.wrap (((A % 4294967296 : Nat) : Int) + ((B % 4294967296 : Nat) : Int))))), .int .i64 0]) [] := by
  have c := c_refName 106
  rw [r_106] at c
  have hA1 : A % 4294967296 < 4294967296 := Nat.mod_lt _ (by decide)
  have hB1 : B % 4294967296 < 4294967296 := Nat.mod_lt _ (by decide)
  refine specE ok sh15 rfl ?_
  conv => whnf
  refine call_of [] (c_bits_106) (by rfl) (by rfl) ?_
  conv => whnf
  refine call_of [] (c_rcN32 A) (by rfl) (by rfl) ?_
  conv => whnf
  refine call_of [] (c_rcN32 B) (by rfl) (by rfl) ?_
  conv => whnf
  refine call_of [] (c) (by rfl) (by rfl) ?_
  conv => whnf
  refine call_of [] (c_test_106) (by rfl) (by rfl) ?_
  conv => whnf
  refine call_of [] (c_rcut32 (IntKind.u64.wrap (((A % 4294967296 : Nat) : Int) + ((B % 4294967296 : Nat) : Int))) (u64_nonneg _)) (by rfl) (by rfl) ?_
  conv => whnf
  exact end_of [] (by rfl) (by rfl) (by rfl) (by exact ⟨rfl, rfl⟩)

set_option maxRecDepth 100000 in
theorem c_pl_sub_32 (A B X Y s : Int) : SpecD S 28 [.str n_sub, .int .u64 A, .int .u64 B, .int .i64 X, .int .i64 Y, .int .u64 s] [] (.int .u64 (IntKind.u64.wrap (A - B))) [] := by
  refine specE ok sh28 rfl ?_
  conv => whnf
  exact end_of [] (by rfl) (by rfl) (by rfl) (by exact ⟨rfl, rfl⟩)

set_option maxRecDepth 100000 in
theorem c_bp_107 (A B : Nat) (_hA : A < 18446744073709551616) (_hB : B < 18446744073709551616) : SpecD S 13 [.int .i64 107, .int .u64 (A : Int), .int .u64 (B : Int)] [] (.tup [.int .u64 (IntKind.u64.wrap (IntKind.u32.wrap (IntKind.u64.wrap (((A % 4294967296 : Nat) : Int) - ((B % 4294967296 : Nat) : Int))))), .int .i64 0]) [] := by
  refine specE ok sh13 rfl ?_
  conv => whnf
  refine call_of [] (c_fd_sub_32) (by rfl) (by rfl) ?_
  conv => whnf
  refine call_of [] (c_ar_sub) (by rfl) (by rfl) ?_
  conv => whnf
  rw [e32 A, e32 B]
  refine call_of [] (c_pl_sub_32 ((A % 4294967296 : Nat) : Int) ((B % 4294967296 : Nat) : Int) (IntKind.i64.wrap (IntKind.i32.wrap ((A % 4294967296 : Nat) : Int))) (IntKind.i64.wrap (IntKind.i32.wrap ((B % 4294967296 : Nat) : Int))) 32) (by rfl) (by rfl) ?_
  conv => whnf
  exact end_of [] (by rfl) (by rfl) (by rfl) (by exact ⟨rfl, rfl⟩)

set_option maxRecDepth 100000 in
theorem c_rb_107 (A B : Nat) (_hA : A < 18446744073709551616) (_hB : B < 18446744073709551616) : SpecD S 15 [.int .i64 107, .int .u64 (A : Int), .int .u64 (B : Int)] [] (.tup [.int .u64 (IntKind.u64.wrap (IntKind.u32.wrap (IntKind.u64.wrap (((A % 4294967296 : Nat) : Int) - ((B % 4294967296 : Nat) : Int))))), .int .i64 0]) [] := by
  have c := c_refName 107
  rw [r_107] at c
  have hA1 : A % 4294967296 < 4294967296 := Nat.mod_lt _ (by decide)
  have hB1 : B % 4294967296 < 4294967296 := Nat.mod_lt _ (by decide)
  refine specE ok sh15 rfl ?_
  conv => whnf
  refine call_of [] (c_bits_107) (by rfl) (by rfl) ?_
  conv => whnf
  refine call_of [] (c_rcN32 A) (by rfl) (by rfl) ?_
  conv => whnf
  refine call_of [] (c_rcN32 B) (by rfl) (by rfl) ?_
  conv => whnf
  refine call_of [] (c) (by rfl) (by rfl) ?_
  conv => whnf
  refine call_of [] (c_test_107) (by rfl) (by rfl) ?_
  conv => whnf
  refine call_of [] (c_rcut32 (IntKind.u64.wrap (((A % 4294967296 : Nat) : Int) - ((B % 4294967296 : Nat) : Int))) (u64_nonneg _)) (by rfl) (by rfl) ?_
  conv => whnf
  exact end_of [] (by rfl) (by rfl) (by rfl) (by exact ⟨rfl, rfl⟩)

theorem c_bp_108 (A B : Nat) (_hA : A < 18446744073709551616) (_hB : B < 18446744073709551616) : SpecD S 13 [.int .i64 108, .int .u64 (A : Int), .int .u64 (B : Int)] [] (.tup [.int .u64 (IntKind.u64.wrap (IntKind.u32.wrap (IntKind.u64.wrap (((A % 4294967296 : Nat) : Int) * ((B % 4294967296 : Nat) : Int))))), .int .i64 0]) [] := by
  have k := c_bin_mul_32 (A : Int) (B : Int)
  rw [e32 A, e32 B] at k
  exact k

set_option maxRecDepth 100000 in
theorem c_rb_108 (A B : Nat) (_hA : A < 18446744073709551616) (_hB : B < 18446744073709551616) : SpecD S 15 [.int .i64 108, .int .u64 (A : Int), .int .u64 (B : Int)] [] (.tup [.int .u64 (IntKind.u64.wrap (IntKind.u32.wrap (IntKind.u64.wrap (((A % 4294967296 : Nat) : Int) * ((B % 4294967296 : Nat) : Int))))), .int .i64 0]) [] := by
  have c := c_refName 108
  rw [r_108] at c
  have hA1 : A % 4294967296 < 4294967296 := Nat.mod_lt _ (by decide)
  have hB1 : B % 4294967296 < 4294967296 := Nat.mod_lt _ (by decide)
  refine specE ok sh15 rfl ?_
  conv => whnf
  refine call_of [] (c_bits_108) (by rfl) (by rfl) ?_
  conv => whnf
  refine call_of [] (c_rcN32 A) (by rfl) (by rfl) ?_
  conv => whnf
  refine call_of [] (c_rcN32 B) (by rfl) (by rfl) ?_
  conv => whnf
  refine call_of [] (c) (by rfl) (by rfl) ?_
  conv => whnf
  refine call_of [] (c_test_108) (by rfl) (by rfl) ?_
  conv => whnf
  refine call_of [] (c_rcut32 (IntKind.u64.wrap (((A % 4294967296 : Nat) : Int) * ((B % 4294967296 : Nat) : Int))) (u64_nonneg _)) (by rfl) (by rfl) ?_
  conv => whnf
  exact end_of [] (by rfl) (by rfl) (by rfl) (by exact ⟨rfl, rfl⟩)

set_option maxRecDepth 100000 in
theorem c_pl_and_32 (A B X Y s : Int) : SpecD S 28 [.str n_and, .int .u64 A, .int .u64 B, .int .i64 X, .int .i64 Y, .int .u64 s] [] (.int .u64 (IntKind.u64.wrap ((BitVec.ofInt IntKind.u64.bits A &&& BitVec.ofInt IntKind.u64.bits B).toNat : Int))) [] := by
  refine specE ok sh28 rfl ?_
  conv => whnf
  exact end_of [] (by rfl) (by rfl) (by rfl) (by exact ⟨rfl, rfl⟩)

set_option maxRecDepth 100000 in
theorem c_bp_113 (A B : Nat) (_hA : A < 18446744073709551616) (_hB : B < 18446744073709551616) : SpecD S 13 [.int .i64 113, .int .u64 (A : Int), .int .u64 (B : Int)] [] (.tup [.int .u64 (((A % 4294967296) &&& (B % 4294967296) : Nat) : Int), .int .i64 0]) [] := by
  have hA1 : A % 4294967296 < 4294967296 := Nat.mod_lt _ (by decide)
  have hB1 : B % 4294967296 < 4294967296 := Nat.mod_lt _ (by decide)
  have k := c_pl_and_32 ((A % 4294967296 : Nat) : Int) ((B % 4294967296 : Nat) : Int) (IntKind.i64.wrap (IntKind.i32.wrap ((A % 4294967296 : Nat) : Int))) (IntKind.i64.wrap (IntKind.i32.wrap ((B % 4294967296 : Nat) : Int))) 32
  rw [and_nat _ _ (by omega) (by omega)] at k
  refine specE ok sh13 rfl ?_
  conv => whnf
  refine call_of [] (c_fd_and_32) (by rfl) (by rfl) ?_
  conv => whnf
  refine call_of [] (c_ar_and) (by rfl) (by rfl) ?_
  conv => whnf
  rw [e32 A, e32 B]
  refine call_of [] (k) (by rfl) (by rfl) ?_
  conv => whnf
  rw [e32' (Nat.lt_of_le_of_lt Nat.and_le_left hA1)]
  exact end_of [] (by rfl) (by rfl) (by rfl) (by exact ⟨rfl, rfl⟩)

set_option maxRecDepth 100000 in
theorem c_rb_113 (A B : Nat) (_hA : A < 18446744073709551616) (_hB : B < 18446744073709551616) : SpecD S 15 [.int .i64 113, .int .u64 (A : Int), .int .u64 (B : Int)] [] (.tup [.int .u64 (((A % 4294967296) &&& (B % 4294967296) : Nat) : Int), .int .i64 0]) [] := by
  have c := c_refName 113
  rw [r_113] at c
  have hA1 : A % 4294967296 < 4294967296 := Nat.mod_lt _ (by decide)
  have hB1 : B % 4294967296 < 4294967296 := Nat.mod_lt _ (by decide)
  refine specE ok sh15 rfl ?_
  conv => whnf
  refine call_of [] (c_bits_113) (by rfl) (by rfl) ?_
  conv => whnf
  refine call_of [] (c_rcN32 A) (by rfl) (by rfl) ?_
  conv => whnf
  refine call_of [] (c_rcN32 B) (by rfl) (by rfl) ?_
  conv => whnf
  refine call_of [] (c) (by rfl) (by rfl) ?_
  conv => whnf
  refine call_of [] (c_test_113) (by rfl) (by rfl) ?_
  conv => whnf
  refine end_of [] (by rfl) (by rfl) (by rfl) ⟨?_, rfl⟩
  exact congrArg (fun n : Int => (AV.tup [.int .u64 n, .int .i64 0] : V)) (and_nat (A % 4294967296) (B % 4294967296) (by omega) (by omega))

set_option maxRecDepth 100000 in
theorem c_pl_or_32 (A B X Y s : Int) : SpecD S 28 [.str n_or, .int .u64 A, .int .u64 B, .int .i64 X, .int .i64 Y, .int .u64 s] [] (.int .u64 (IntKind.u64.wrap ((BitVec.ofInt IntKind.u64.bits A ||| BitVec.ofInt IntKind.u64.bits B).toNat : Int))) [] := by
  refine specE ok sh28 rfl ?_
  conv => whnf
  exact end_of [] (by rfl) (by rfl) (by rfl) (by exact ⟨rfl, rfl⟩)

set_option maxRecDepth 100000 in
theorem c_bp_114 (A B : Nat) (_hA : A < 18446744073709551616) (_hB : B < 18446744073709551616) : SpecD S 13 [.int .i64 114, .int .u64 (A : Int), .int .u64 (B : Int)] [] (.tup [.int .u64 (((A % 4294967296) ||| (B % 4294967296) : Nat) : Int), .int .i64 0]) [] := by
  have hA1 : A % 4294967296 < 4294967296 := Nat.mod_lt _ (by decide)
  have hB1 : B % 4294967296 < 4294967296 := Nat.mod_lt _ (by decide)
  have k := c_pl_or_32 ((A % 4294967296 : Nat) : Int) ((B % 4294967296 : Nat) : Int) (IntKind.i64.wrap (IntKind.i32.wrap ((A % 4294967296 : Nat) : Int))) (IntKind.i64.wrap (IntKind.i32.wrap ((B % 4294967296 : Nat) : Int))) 32
  rw [or_nat _ _ (by omega) (by omega)] at k
  refine specE ok sh13 rfl ?_
  conv => whnf
  refine call_of [] (c_fd_or_32) (by rfl) (by rfl) ?_
  conv => whnf
  refine call_of [] (c_ar_or) (by rfl) (by rfl) ?_
  conv => whnf
  rw [e32 A, e32 B]
  refine call_of [] (k) (by rfl) (by rfl) ?_
  conv => whnf
  rw [e32' (Nat.or_lt_two_pow (n := 32) hA1 hB1)]
  exact end_of [] (by rfl) (by rfl) (by rfl) (by exact ⟨rfl, rfl⟩)

set_option maxRecDepth 100000 in
theorem c_rb_114 (A B : Nat) (_hA : A < 18446744073709551616) (_hB : B < 18446744073709551616) : SpecD S 15 [.int .i64 114, .int .u64 (A : Int), .int .u64 (B : Int)] [] (.tup [.int .u64 (((A % 4294967296) ||| (B % 4294967296) : Nat) : Int), .int .i64 0]) [] := by
  have c := c_refName 114
  rw [r_114] at c
  have hA1 : A % 4294967296 < 4294967296 := Nat.mod_lt _ (by decide)
  have hB1 : B % 4294967296 < 4294967296 := Nat.mod_lt _ (by decide)
  refine specE ok sh15 rfl ?_
  conv => whnf
  refine call_of [] (c_bits_114) (by rfl) (by rfl) ?_
  conv => whnf
  refine call_of [] (c_rcN32 A) (by rfl) (by rfl) ?_
  conv => whnf
  refine call_of [] (c_rcN32 B) (by rfl) (by rfl) ?_
  conv => whnf
  refine call_of [] (c) (by rfl) (by rfl) ?_
  conv => whnf
  refine call_of [] (c_test_114) (by rfl) (by rfl) ?_
  conv => whnf
  refine end_of [] (by rfl) (by rfl) (by rfl) ⟨?_, rfl⟩
  exact congrArg (fun n : Int => (AV.tup [.int .u64 n, .int .i64 0] : V)) (or_nat (A % 4294967296) (B % 4294967296) (by omega) (by omega))

set_option maxRecDepth 100000 in
theorem c_pl_xor_32 (A B X Y s : Int) : SpecD S 28 [.str n_xor, .int .u64 A, .int .u64 B, .int .i64 X, .int .i64 Y, .int .u64 s] [] (.int .u64 (IntKind.u64.wrap ((BitVec.ofInt IntKind.u64.bits A ^^^ BitVec.ofInt IntKind.u64.bits B).toNat : Int))) [] := by
  refine specE ok sh28 rfl ?_
  conv => whnf
  exact end_of [] (by rfl) (by rfl) (by rfl) (by exact ⟨rfl, rfl⟩)

set_option maxRecDepth 100000 in
theorem c_bp_115 (A B : Nat) (_hA : A < 18446744073709551616) (_hB : B < 18446744073709551616) : SpecD S 13 [.int .i64 115, .int .u64 (A : Int), .int .u64 (B : Int)] [] (.tup [.int .u64 (((A % 4294967296) ^^^ (B % 4294967296) : Nat) : Int), .int .i64 0]) [] := by
  have hA1 : A % 4294967296 < 4294967296 := Nat.mod_lt _ (by decide)
  have hB1 : B % 4294967296 < 4294967296 := Nat.mod_lt _ (by decide)
  have k := c_pl_xor_32 ((A % 4294967296 : Nat) : Int) ((B % 4294967296 : Nat) : Int) (IntKind.i64.wrap (IntKind.i32.wrap ((A % 4294967296 : Nat) : Int))) (IntKind.i64.wrap (IntKind.i32.wrap ((B % 4294967296 : Nat) : Int))) 32
  rw [xor_nat _ _ (by omega) (by omega)] at k
  refine specE ok sh13 rfl ?_
  conv => whnf
  refine call_of [] (c_fd_xor_32) (by rfl) (by rfl) ?_
  conv => whnf
  refine call_of [] (c_ar_xor) (by rfl) (by rfl) ?_
  conv => whnf
  rw [e32 A, e32 B]
  refine call_of [] (k) (by rfl) (by rfl) ?_
  conv => whnf
  rw [e32' (Nat.xor_lt_two_pow (n := 32) hA1 hB1)]
  exact end_of [] (by rfl) (by rfl) (by rfl) (by exact ⟨rfl, rfl⟩)

set_option maxRecDepth 100000 in
theorem c_rb_115 (A B : Nat) (_hA : A < 18446744073709551616) (_hB : B < 18446744073709551616) : SpecD S 15 [.int .i64 115, .int .u64 (A : Int), .int .u64 (B : Int)] [] (.tup [.int .u64 (((A % 4294967296) ^^^ (B % 4294967296) : Nat) : Int), .int .i64 0]) [] := by
  have c := c_refName 115
  rw [r_115] at c
  have hA1 : A % 4294967296 < 4294967296 := Nat.mod_lt _ (by decide)
  have hB1 : B % 4294967296 < 4294967296 := Nat.mod_lt _ (by decide)
  refine specE ok sh15 rfl ?_
  conv => whnf
  refine call_of [] (c_bits_115) (by rfl) (by rfl) ?_
  conv => whnf
  refine call_of [] (c_rcN32 A) (by rfl) (by rfl) ?_
  conv => whnf
  refine call_of [] (c_rcN32 B) (by rfl) (by rfl) ?_
  conv => whnf
  refine call_of [] (c) (by rfl) (by rfl) ?_
  conv => whnf
  refine call_of [] (c_test_115) (by rfl) (by rfl) ?_
  conv => whnf
  refine end_of [] (by rfl) (by rfl) (by rfl) ⟨?_, rfl⟩
  exact congrArg (fun n : Int => (AV.tup [.int .u64 n, .int .i64 0] : V)) (xor_nat (A % 4294967296) (B % 4294967296) (by omega) (by omega))

set_option maxRecDepth 100000 in
theorem c_pl_shl_32 (A B : Nat) (X Y : Int) : SpecD S 28 [.str n_shl, .int .u64 (A : Int), .int .u64 (B : Int), .int .i64 X, .int .i64 Y, .int .u64 32] [] (.int .u64 (IntKind.u64.wrap ((A : Int) * 2 ^ (min ((B % 32 : Nat) : Int).toNat IntKind.u64.bits)))) [] := by
  have ht : Int.tmod (B : Int) 32 = ((B % 32 : Nat) : Int) := rfl
  refine specE ok sh28 rfl ?_
  conv => whnf
  refine ⟨by decide, ?_⟩
  conv => whnf
  rw [ht]
  refine ⟨by omega, ?_⟩
  conv => whnf
  exact end_of [] (by rfl) (by rfl) (by rfl) (by exact ⟨rfl, rfl⟩)

set_option maxRecDepth 100000 in
theorem c_bp_116 (A B : Nat) (_hA : A < 18446744073709551616) (_hB : B < 18446744073709551616) : SpecD S 13 [.int .i64 116, .int .u64 (A : Int), .int .u64 (B : Int)] [] (.tup [.int .u64 (((A % 4294967296) * 2 ^ ((B % 4294967296) % 32) % 2 ^ 32 : Nat) : Int), .int .i64 0]) [] := by
  have hA1 : A % 4294967296 < 4294967296 := Nat.mod_lt _ (by decide)
  have hB1 : B % 4294967296 < 4294967296 := Nat.mod_lt _ (by decide)
  have hr : ((B % 4294967296) % 32) < 32 := Nat.mod_lt _ (by decide)
  refine specE ok sh13 rfl ?_
  conv => whnf
  refine call_of [] (c_fd_shl_32) (by rfl) (by rfl) ?_
  conv => whnf
  refine call_of [] (c_ar_shl) (by rfl) (by rfl) ?_
  conv => whnf
  rw [e32 A, e32 B]
  refine call_of [] (c_pl_shl_32 (A % 4294967296) (B % 4294967296) (IntKind.i64.wrap (IntKind.i32.wrap ((A % 4294967296 : Nat) : Int))) (IntKind.i64.wrap (IntKind.i32.wrap ((B % 4294967296 : Nat) : Int)))) (by rfl) (by rfl) ?_
  conv => whnf
  refine end_of [] (by rfl) (by rfl) (by rfl) ⟨?_, rfl⟩
  exact congrArg (fun n : Int => (AV.tup [.int .u64 n, .int .i64 0] : V)) (by rw [shl_nat _ ((B % 4294967296) % 32) IntKind.u64.bits (by show ((B % 4294967296) % 32) ≤ 64; omega) _ rfl, u64_nat]; rw [e32, show (A % 4294967296) * 2 ^ ((B % 4294967296) % 32) % 18446744073709551616 % 4294967296 = (A % 4294967296) * 2 ^ ((B % 4294967296) % 32) % 2 ^ 32 by omega])

set_option maxRecDepth 100000 in
theorem c_rb_116 (A B : Nat) (_hA : A < 18446744073709551616) (_hB : B < 18446744073709551616) : SpecD S 15 [.int .i64 116, .int .u64 (A : Int), .int .u64 (B : Int)] [] (.tup [.int .u64 (((A % 4294967296) * 2 ^ ((B % 4294967296) % 32) % 2 ^ 32 : Nat) : Int), .int .i64 0]) [] := by
  have c := c_refName 116
  rw [r_116] at c
  have hA1 : A % 4294967296 < 4294967296 := Nat.mod_lt _ (by decide)
  have hB1 : B % 4294967296 < 4294967296 := Nat.mod_lt _ (by decide)
  have hr : ((B % 4294967296) % 32) < 32 := Nat.mod_lt _ (by decide)
  have k := c_shifted_shl (A % 4294967296) ((B % 4294967296) % 32) 32 hr (by decide)
  rw [acc_shl] at k
  refine specE ok sh15 rfl ?_
  conv => whnf
  refine call_of [] (c_bits_116) (by rfl) (by rfl) ?_
  conv => whnf
  refine call_of [] (c_rcN32 A) (by rfl) (by rfl) ?_
  conv => whnf
  refine call_of [] (c_rcN32 B) (by rfl) (by rfl) ?_
  conv => whnf
  refine call_of [] (c) (by rfl) (by rfl) ?_
  conv => whnf
  refine call_of [] (c_test_116) (by rfl) (by rfl) ?_
  conv => whnf
  refine ⟨by decide, ?_⟩
  conv => whnf
  rw [show IntKind.i64.wrap (Int.tmod ((B % 4294967296 : Nat) : Int) (IntKind.u64.wrap 32)) = ((((B % 4294967296) % 32) : Nat) : Int) by
    show IntKind.i64.wrap ((((B % 4294967296) % 32) : Nat) : Int) = _
    rw [IntKind.wrap_i64]; omega]
  refine call_of [] (k) (by rfl) (by rfl) ?_
  conv => whnf
  exact end_of [] (by rfl) (by rfl) (by rfl) (by exact ⟨rfl, rfl⟩)

set_option maxRecDepth 100000 in
theorem c_bp_117 (A B : Nat) (_hA : A < 18446744073709551616) (_hB : B < 18446744073709551616) : SpecD S 13 [.int .i64 117, .int .u64 (A : Int), .int .u64 (B : Int)] [] (.tup [.int .u64 ((sarN 32 (A % 4294967296) ((B % 4294967296) % 32) : Nat) : Int), .int .i64 0]) [] := by
  have hA1 : A % 4294967296 < 4294967296 := Nat.mod_lt _ (by decide)
  have hB1 : B % 4294967296 < 4294967296 := Nat.mod_lt _ (by decide)
  have hr : ((B % 4294967296) % 32) < 32 := Nat.mod_lt _ (by decide)
  have ht : Int.tmod ((B % 4294967296 : Nat) : Int) 32 = ((((B % 4294967296) % 32) : Nat) : Int) := rfl
  have hm : min (((((B % 4294967296) % 32) : Nat) : Int)).toNat IntKind.i64.bits = ((B % 4294967296) % 32) := by rw [Int.toNat_natCast]; exact Nat.min_eq_left (by show ((B % 4294967296) % 32) ≤ 64; omega)
  refine specE ok sh13 rfl ?_
  conv => whnf
  refine call_of [] (c_fd_shr_s_32) (by rfl) (by rfl) ?_
  conv => whnf
  refine call_of [] (c_ar_shr_s) (by rfl) (by rfl) ?_
  conv => whnf
  rw [e32 A, e32 B]
  refine ⟨by decide, ?_⟩
  conv => whnf
  rw [ht]
  refine ⟨by omega, ?_⟩
  conv => whnf
  refine end_of [] (by rfl) (by rfl) (by rfl) ⟨?_, rfl⟩
  have hs := @sar32 (A % 4294967296) ((B % 4294967296) % 32) hr hA1
  exact congrArg (fun n : Int => (AV.tup [.int .u64 n, .int .i64 0] : V)) (by rw [hm]; exact hs)

set_option maxRecDepth 100000 in
theorem c_rb_117 (A B : Nat) (_hA : A < 18446744073709551616) (_hB : B < 18446744073709551616) : SpecD S 15 [.int .i64 117, .int .u64 (A : Int), .int .u64 (B : Int)] [] (.tup [.int .u64 ((sarN 32 (A % 4294967296) ((B % 4294967296) % 32) : Nat) : Int), .int .i64 0]) [] := by
  have c := c_refName 117
  rw [r_117] at c
  have hA1 : A % 4294967296 < 4294967296 := Nat.mod_lt _ (by decide)
  have hB1 : B % 4294967296 < 4294967296 := Nat.mod_lt _ (by decide)
  have hr : ((B % 4294967296) % 32) < 32 := Nat.mod_lt _ (by decide)
  have k := c_shifted_shr_s (A % 4294967296) ((B % 4294967296) % 32) 32 hr (by decide)
  rw [acc_shr_s hr hA1] at k
  refine specE ok sh15 rfl ?_
  conv => whnf
  refine call_of [] (c_bits_117) (by rfl) (by rfl) ?_
  conv => whnf
  refine call_of [] (c_rcN32 A) (by rfl) (by rfl) ?_
  conv => whnf
  refine call_of [] (c_rcN32 B) (by rfl) (by rfl) ?_
  conv => whnf
  refine call_of [] (c) (by rfl) (by rfl) ?_
  conv => whnf
  refine call_of [] (c_test_117) (by rfl) (by rfl) ?_
  conv => whnf
  refine ⟨by decide, ?_⟩
  conv => whnf
  rw [show IntKind.i64.wrap (Int.tmod ((B % 4294967296 : Nat) : Int) (IntKind.u64.wrap 32)) = ((((B % 4294967296) % 32) : Nat) : Int) by
    show IntKind.i64.wrap ((((B % 4294967296) % 32) : Nat) : Int) = _
    rw [IntKind.wrap_i64]; omega]
  refine call_of [] (k) (by rfl) (by rfl) ?_
  conv => whnf
  exact end_of [] (by rfl) (by rfl) (by rfl) (by exact ⟨rfl, rfl⟩)

set_option maxRecDepth 100000 in
theorem c_pl_shr_u_32 (A B : Nat) (X Y : Int) : SpecD S 28 [.str n_shr_u, .int .u64 (A : Int), .int .u64 (B : Int), .int .i64 X, .int .i64 Y, .int .u64 32] [] (.int .u64 ((A : Int).fdiv (2 ^ (min ((B % 32 : Nat) : Int).toNat IntKind.u64.bits)))) [] := by
  have ht : Int.tmod (B : Int) 32 = ((B % 32 : Nat) : Int) := rfl
  refine specE ok sh28 rfl ?_
  conv => whnf
  refine ⟨by decide, ?_⟩
  conv => whnf
  rw [ht]
  refine ⟨by omega, ?_⟩
  conv => whnf
  exact end_of [] (by rfl) (by rfl) (by rfl) (by exact ⟨rfl, rfl⟩)

set_option maxRecDepth 100000 in
theorem c_bp_118 (A B : Nat) (_hA : A < 18446744073709551616) (_hB : B < 18446744073709551616) : SpecD S 13 [.int .i64 118, .int .u64 (A : Int), .int .u64 (B : Int)] [] (.tup [.int .u64 (((A % 4294967296) / 2 ^ ((B % 4294967296) % 32) : Nat) : Int), .int .i64 0]) [] := by
  have hA1 : A % 4294967296 < 4294967296 := Nat.mod_lt _ (by decide)
  have hB1 : B % 4294967296 < 4294967296 := Nat.mod_lt _ (by decide)
  have hr : ((B % 4294967296) % 32) < 32 := Nat.mod_lt _ (by decide)
  refine specE ok sh13 rfl ?_
  conv => whnf
  refine call_of [] (c_fd_shr_u_32) (by rfl) (by rfl) ?_
  conv => whnf
  refine call_of [] (c_ar_shr_u) (by rfl) (by rfl) ?_
  conv => whnf
  rw [e32 A, e32 B]
  refine call_of [] (c_pl_shr_u_32 (A % 4294967296) (B % 4294967296) (IntKind.i64.wrap (IntKind.i32.wrap ((A % 4294967296 : Nat) : Int))) (IntKind.i64.wrap (IntKind.i32.wrap ((B % 4294967296 : Nat) : Int)))) (by rfl) (by rfl) ?_
  conv => whnf
  refine end_of [] (by rfl) (by rfl) (by rfl) ⟨?_, rfl⟩
  exact congrArg (fun n : Int => (AV.tup [.int .u64 n, .int .i64 0] : V)) (by rw [shr_nat _ ((B % 4294967296) % 32) IntKind.u64.bits (by show ((B % 4294967296) % 32) ≤ 64; omega) _ rfl]; exact e32' (Nat.lt_of_le_of_lt (Nat.div_le_self _ _) hA1))

set_option maxRecDepth 100000 in
theorem c_rb_118 (A B : Nat) (_hA : A < 18446744073709551616) (_hB : B < 18446744073709551616) : SpecD S 15 [.int .i64 118, .int .u64 (A : Int), .int .u64 (B : Int)] [] (.tup [.int .u64 (((A % 4294967296) / 2 ^ ((B % 4294967296) % 32) : Nat) : Int), .int .i64 0]) [] := by
  have c := c_refName 118
  rw [r_118] at c
  have hA1 : A % 4294967296 < 4294967296 := Nat.mod_lt _ (by decide)
  have hB1 : B % 4294967296 < 4294967296 := Nat.mod_lt _ (by decide)
  have hr : ((B % 4294967296) % 32) < 32 := Nat.mod_lt _ (by decide)
  have k := c_shifted_shr_u (A % 4294967296) ((B % 4294967296) % 32) 32 hr (by decide)
  rw [acc_shr_u _ hA1] at k
  refine specE ok sh15 rfl ?_
  conv => whnf
  refine call_of [] (c_bits_118) (by rfl) (by rfl) ?_
  conv => whnf
  refine call_of [] (c_rcN32 A) (by rfl) (by rfl) ?_
  conv => whnf
  refine call_of [] (c_rcN32 B) (by rfl) (by rfl) ?_
  conv => whnf
  refine call_of [] (c) (by rfl) (by rfl) ?_
  conv => whnf
  refine call_of [] (c_test_118) (by rfl) (by rfl) ?_
  conv => whnf
  refine ⟨by decide, ?_⟩
  conv => whnf
  rw [show IntKind.i64.wrap (Int.tmod ((B % 4294967296 : Nat) : Int) (IntKind.u64.wrap 32)) = ((((B % 4294967296) % 32) : Nat) : Int) by
    show IntKind.i64.wrap ((((B % 4294967296) % 32) : Nat) : Int) = _
    rw [IntKind.wrap_i64]; omega]
  refine call_of [] (k) (by rfl) (by rfl) ?_
  conv => whnf
  exact end_of [] (by rfl) (by rfl) (by rfl) (by exact ⟨rfl, rfl⟩)

theorem c_bp_119 (A B : Nat) (hA : A < 18446744073709551616) (hB : B < 18446744073709551616) : SpecD S 13 [.int .i64 119, .int .u64 (A : Int), .int .u64 (B : Int)] [] (.tup [.int .u64 ((rolL 32 (A % 4294967296) ((B % 4294967296) % 32) : Nat) : Int), .int .i64 0]) [] := c_bin_rotl_32 A B hA hB

set_option maxRecDepth 100000 in
theorem c_rb_119 (A B : Nat) (_hA : A < 18446744073709551616) (_hB : B < 18446744073709551616) : SpecD S 15 [.int .i64 119, .int .u64 (A : Int), .int .u64 (B : Int)] [] (.tup [.int .u64 ((rolL 32 (A % 4294967296) ((B % 4294967296) % 32) : Nat) : Int), .int .i64 0]) [] := by
  have c := c_refName 119
  rw [r_119] at c
  have hA1 : A % 4294967296 < 4294967296 := Nat.mod_lt _ (by decide)
  have hB1 : B % 4294967296 < 4294967296 := Nat.mod_lt _ (by decide)
  have hr : ((B % 4294967296) % 32) < 32 := Nat.mod_lt _ (by decide)
  have k := c_shifted_rotl (A % 4294967296) ((B % 4294967296) % 32) 32 hr (by decide)
  rw [acc_rotl hr hA1] at k
  refine specE ok sh15 rfl ?_
  conv => whnf
  refine call_of [] (c_bits_119) (by rfl) (by rfl) ?_
  conv => whnf
  refine call_of [] (c_rcN32 A) (by rfl) (by rfl) ?_
  conv => whnf
  refine call_of [] (c_rcN32 B) (by rfl) (by rfl) ?_
  conv => whnf
  refine call_of [] (c) (by rfl) (by rfl) ?_
  conv => whnf
  refine call_of [] (c_test_119) (by rfl) (by rfl) ?_
  conv => whnf
  refine ⟨by decide, ?_⟩
  conv => whnf
  rw [show IntKind.i64.wrap (Int.tmod ((B % 4294967296 : Nat) : Int) (IntKind.u64.wrap 32)) = ((((B % 4294967296) % 32) : Nat) : Int) by
    show IntKind.i64.wrap ((((B % 4294967296) % 32) : Nat) : Int) = _
    rw [IntKind.wrap_i64]; omega]
  refine call_of [] (k) (by rfl) (by rfl) ?_
  conv => whnf
  exact end_of [] (by rfl) (by rfl) (by rfl) (by exact ⟨rfl, rfl⟩)

theorem c_bp_120 (A B : Nat) (hA : A < 18446744073709551616) (hB : B < 18446744073709551616) : SpecD S 13 [.int .i64 120, .int .u64 (A : Int), .int .u64 (B : Int)] [] (.tup [.int .u64 ((rolL 32 (A % 4294967296) ((32 - ((B % 4294967296) % 32)) % 32) : Nat) : Int), .int .i64 0]) [] := c_bin_rotr_32 A B hA hB

set_option maxRecDepth 100000 in
theorem c_rb_120 (A B : Nat) (_hA : A < 18446744073709551616) (_hB : B < 18446744073709551616) : SpecD S 15 [.int .i64 120, .int .u64 (A : Int), .int .u64 (B : Int)] [] (.tup [.int .u64 ((rolL 32 (A % 4294967296) ((32 - ((B % 4294967296) % 32)) % 32) : Nat) : Int), .int .i64 0]) [] := by
  have c := c_refName 120
  rw [r_120] at c
  have hA1 : A % 4294967296 < 4294967296 := Nat.mod_lt _ (by decide)
  have hB1 : B % 4294967296 < 4294967296 := Nat.mod_lt _ (by decide)
  have hr : ((B % 4294967296) % 32) < 32 := Nat.mod_lt _ (by decide)
  have k := c_shifted_rotr (A % 4294967296) ((B % 4294967296) % 32) 32 hr (by decide)
  rw [acc_rotr hr hA1] at k
  refine specE ok sh15 rfl ?_
  conv => whnf
  refine call_of [] (c_bits_120) (by rfl) (by rfl) ?_
  conv => whnf
  refine call_of [] (c_rcN32 A) (by rfl) (by rfl) ?_
  conv => whnf
  refine call_of [] (c_rcN32 B) (by rfl) (by rfl) ?_
  conv => whnf
  refine call_of [] (c) (by rfl) (by rfl) ?_
  conv => whnf
  refine call_of [] (c_test_120) (by rfl) (by rfl) ?_
  conv => whnf
  refine ⟨by decide, ?_⟩
  conv => whnf
  rw [show IntKind.i64.wrap (Int.tmod ((B % 4294967296 : Nat) : Int) (IntKind.u64.wrap 32)) = ((((B % 4294967296) % 32) : Nat) : Int) by
    show IntKind.i64.wrap ((((B % 4294967296) % 32) : Nat) : Int) = _
    rw [IntKind.wrap_i64]; omega]
  refine call_of [] (k) (by rfl) (by rfl) ?_
  conv => whnf
  exact end_of [] (by rfl) (by rfl) (by rfl) (by exact ⟨rfl, rfl⟩)

theorem c_bp_124 (A B : Nat) (_hA : A < 18446744073709551616) (_hB : B < 18446744073709551616) : SpecD S 13 [.int .i64 124, .int .u64 (A : Int), .int .u64 (B : Int)] [] (.tup [.int .u64 (IntKind.u64.wrap ((A : Int) + (B : Int))), .int .i64 0]) [] := by
  have k := c_bin_add_64 (A : Int) (B : Int)
  exact k

set_option maxRecDepth 100000 in
theorem c_rb_124 (A B : Nat) (hA : A < 18446744073709551616) (hB : B < 18446744073709551616) : SpecD S 15 [.int .i64 124, .int .u64 (A : Int), .int .u64 (B : Int)] [] (.tup [.int .u64 (IntKind.u64.wrap ((A : Int) + (B : Int))), .int .i64 0]) [] := by
  have c := c_refName 124
  rw [r_124] at c
  have hA1 := hA
  have hB1 := hB
  refine specE ok sh15 rfl ?_
  conv => whnf
  refine call_of [] (c_bits_124) (by rfl) (by rfl) ?_
  conv => whnf
  refine call_of [] (c_rcN64 A) (by rfl) (by rfl) ?_
  conv => whnf
  refine call_of [] (c_rcN64 B) (by rfl) (by rfl) ?_
  conv => whnf
  refine call_of [] (c) (by rfl) (by rfl) ?_
  conv => whnf
  refine call_of [] (c_test_124) (by rfl) (by rfl) ?_
  conv => whnf
  refine call_of [] (c_rcut64 (IntKind.u64.wrap ((A : Int) + (B : Int)))) (by rfl) (by rfl) ?_
  conv => whnf
  exact end_of [] (by rfl) (by rfl) (by rfl) (by exact ⟨rfl, rfl⟩)

set_option maxRecDepth 100000 in
theorem c_pl_sub_64 (A B X Y s : Int) : SpecD S 28 [.str n_sub, .int .u64 A, .int .u64 B, .int .i64 X, .int .i64 Y, .int .u64 s] [] (.int .u64 (IntKind.u64.wrap (A - B))) [] := by
  refine specE ok sh28 rfl ?_
  conv => whnf
  exact end_of [] (by rfl) (by rfl) (by rfl) (by exact ⟨rfl, rfl⟩)

set_option maxRecDepth 100000 in
theorem c_bp_125 (A B : Nat) (_hA : A < 18446744073709551616) (_hB : B < 18446744073709551616) : SpecD S 13 [.int .i64 125, .int .u64 (A : Int), .int .u64 (B : Int)] [] (.tup [.int .u64 (IntKind.u64.wrap ((A : Int) - (B : Int))), .int .i64 0]) [] := by
  refine specE ok sh13 rfl ?_
  conv => whnf
  refine call_of [] (c_fd_sub_64) (by rfl) (by rfl) ?_
  conv => whnf
  refine call_of [] (c_ar_sub) (by rfl) (by rfl) ?_
  conv => whnf
  refine call_of [] (c_pl_sub_64 (A : Int) (B : Int) (IntKind.i64.wrap (A : Int)) (IntKind.i64.wrap (B : Int)) 64) (by rfl) (by rfl) ?_
  conv => whnf
  exact end_of [] (by rfl) (by rfl) (by rfl) (by exact ⟨rfl, rfl⟩)

set_option maxRecDepth 100000 in
theorem c_rb_125 (A B : Nat) (hA : A < 18446744073709551616) (hB : B < 18446744073709551616) : SpecD S 15 [.int .i64 125, .int .u64 (A : Int), .int .u64 (B : Int)] [] (.tup [.int .u64 (IntKind.u64.wrap ((A : Int) - (B : Int))), .int .i64 0]) [] := by
  have c := c_refName 125
  rw [r_125] at c
  have hA1 := hA
  have hB1 := hB
  refine specE ok sh15 rfl ?_
  conv => whnf
  refine call_of [] (c_bits_125) (by rfl) (by rfl) ?_
  conv => whnf
  refine call_of [] (c_rcN64 A) (by rfl) (by rfl) ?_
  conv => whnf
  refine call_of [] (c_rcN64 B) (by rfl) (by rfl) ?_
  conv => whnf
  refine call_of [] (c) (by rfl) (by rfl) ?_
  conv => whnf
  refine call_of [] (c_test_125) (by rfl) (by rfl) ?_
  conv => whnf
  refine call_of [] (c_rcut64 (IntKind.u64.wrap ((A : Int) - (B : Int)))) (by rfl) (by rfl) ?_
  conv => whnf
  exact end_of [] (by rfl) (by rfl) (by rfl) (by exact ⟨rfl, rfl⟩)

theorem c_bp_126 (A B : Nat) (_hA : A < 18446744073709551616) (_hB : B < 18446744073709551616) : SpecD S 13 [.int .i64 126, .int .u64 (A : Int), .int .u64 (B : Int)] [] (.tup [.int .u64 (IntKind.u64.wrap ((A : Int) * (B : Int))), .int .i64 0]) [] := by
  have k := c_bin_mul_64 (A : Int) (B : Int)
  exact k

set_option maxRecDepth 100000 in
theorem c_rb_126 (A B : Nat) (hA : A < 18446744073709551616) (hB : B < 18446744073709551616) : SpecD S 15 [.int .i64 126, .int .u64 (A : Int), .int .u64 (B : Int)] [] (.tup [.int .u64 (IntKind.u64.wrap ((A : Int) * (B : Int))), .int .i64 0]) [] := by
  have c := c_refName 126
  rw [r_126] at c
  have hA1 := hA
  have hB1 := hB
  refine specE ok sh15 rfl ?_
  conv => whnf
  refine call_of [] (c_bits_126) (by rfl) (by rfl) ?_
  conv => whnf
  refine call_of [] (c_rcN64 A) (by rfl) (by rfl) ?_
  conv => whnf
  refine call_of [] (c_rcN64 B) (by rfl) (by rfl) ?_
  conv => whnf
  refine call_of [] (c) (by rfl) (by rfl) ?_
  conv => whnf
  refine call_of [] (c_test_126) (by rfl) (by rfl) ?_
  conv => whnf
  refine call_of [] (c_rcut64 (IntKind.u64.wrap ((A : Int) * (B : Int)))) (by rfl) (by rfl) ?_
  conv => whnf
  exact end_of [] (by rfl) (by rfl) (by rfl) (by exact ⟨rfl, rfl⟩)

set_option maxRecDepth 100000 in
theorem c_pl_and_64 (A B X Y s : Int) : SpecD S 28 [.str n_and, .int .u64 A, .int .u64 B, .int .i64 X, .int .i64 Y, .int .u64 s] [] (.int .u64 (IntKind.u64.wrap ((BitVec.ofInt IntKind.u64.bits A &&& BitVec.ofInt IntKind.u64.bits B).toNat : Int))) [] := by
  refine specE ok sh28 rfl ?_
  conv => whnf
  exact end_of [] (by rfl) (by rfl) (by rfl) (by exact ⟨rfl, rfl⟩)

set_option maxRecDepth 100000 in
theorem c_bp_131 (A B : Nat) (hA : A < 18446744073709551616) (hB : B < 18446744073709551616) : SpecD S 13 [.int .i64 131, .int .u64 (A : Int), .int .u64 (B : Int)] [] (.tup [.int .u64 ((A &&& B : Nat) : Int), .int .i64 0]) [] := by
  have hA1 := hA
  have hB1 := hB
  have k := c_pl_and_64 (A : Int) (B : Int) (IntKind.i64.wrap (A : Int)) (IntKind.i64.wrap (B : Int)) 64
  rw [and_nat _ _ (by omega) (by omega)] at k
  refine specE ok sh13 rfl ?_
  conv => whnf
  refine call_of [] (c_fd_and_64) (by rfl) (by rfl) ?_
  conv => whnf
  refine call_of [] (c_ar_and) (by rfl) (by rfl) ?_
  conv => whnf
  refine call_of [] (k) (by rfl) (by rfl) ?_
  conv => whnf
  exact end_of [] (by rfl) (by rfl) (by rfl) (by exact ⟨rfl, rfl⟩)

set_option maxRecDepth 100000 in
theorem c_rb_131 (A B : Nat) (hA : A < 18446744073709551616) (hB : B < 18446744073709551616) : SpecD S 15 [.int .i64 131, .int .u64 (A : Int), .int .u64 (B : Int)] [] (.tup [.int .u64 ((A &&& B : Nat) : Int), .int .i64 0]) [] := by
  have c := c_refName 131
  rw [r_131] at c
  have hA1 := hA
  have hB1 := hB
  refine specE ok sh15 rfl ?_
  conv => whnf
  refine call_of [] (c_bits_131) (by rfl) (by rfl) ?_
  conv => whnf
  refine call_of [] (c_rcN64 A) (by rfl) (by rfl) ?_
  conv => whnf
  refine call_of [] (c_rcN64 B) (by rfl) (by rfl) ?_
  conv => whnf
  refine call_of [] (c) (by rfl) (by rfl) ?_
  conv => whnf
  refine call_of [] (c_test_131) (by rfl) (by rfl) ?_
  conv => whnf
  refine end_of [] (by rfl) (by rfl) (by rfl) ⟨?_, rfl⟩
  exact congrArg (fun n : Int => (AV.tup [.int .u64 n, .int .i64 0] : V)) (and_nat A B (by omega) (by omega))

set_option maxRecDepth 100000 in
theorem c_pl_or_64 (A B X Y s : Int) : SpecD S 28 [.str n_or, .int .u64 A, .int .u64 B, .int .i64 X, .int .i64 Y, .int .u64 s] [] (.int .u64 (IntKind.u64.wrap ((BitVec.ofInt IntKind.u64.bits A ||| BitVec.ofInt IntKind.u64.bits B).toNat : Int))) [] := by
  refine specE ok sh28 rfl ?_
  conv => whnf
  exact end_of [] (by rfl) (by rfl) (by rfl) (by exact ⟨rfl, rfl⟩)

set_option maxRecDepth 100000 in
theorem c_bp_132 (A B : Nat) (hA : A < 18446744073709551616) (hB : B < 18446744073709551616) : SpecD S 13 [.int .i64 132, .int .u64 (A : Int), .int .u64 (B : Int)] [] (.tup [.int .u64 ((A ||| B : Nat) : Int), .int .i64 0]) [] := by
  have hA1 := hA
  have hB1 := hB
  have k := c_pl_or_64 (A : Int) (B : Int) (IntKind.i64.wrap (A : Int)) (IntKind.i64.wrap (B : Int)) 64
  rw [or_nat _ _ (by omega) (by omega)] at k
  refine specE ok sh13 rfl ?_
  conv => whnf
  refine call_of [] (c_fd_or_64) (by rfl) (by rfl) ?_
  conv => whnf
  refine call_of [] (c_ar_or) (by rfl) (by rfl) ?_
  conv => whnf
  refine call_of [] (k) (by rfl) (by rfl) ?_
  conv => whnf
  exact end_of [] (by rfl) (by rfl) (by rfl) (by exact ⟨rfl, rfl⟩)

set_option maxRecDepth 100000 in
theorem c_rb_132 (A B : Nat) (hA : A < 18446744073709551616) (hB : B < 18446744073709551616) : SpecD S 15 [.int .i64 132, .int .u64 (A : Int), .int .u64 (B : Int)] [] (.tup [.int .u64 ((A ||| B : Nat) : Int), .int .i64 0]) [] := by
  have c := c_refName 132
  rw [r_132] at c
  have hA1 := hA
  have hB1 := hB
  refine specE ok sh15 rfl ?_
  conv => whnf
  refine call_of [] (c_bits_132) (by rfl) (by rfl) ?_
  conv => whnf
  refine call_of [] (c_rcN64 A) (by rfl) (by rfl) ?_
  conv => whnf
  refine call_of [] (c_rcN64 B) (by rfl) (by rfl) ?_
  conv => whnf
  refine call_of [] (c) (by rfl) (by rfl) ?_
  conv => whnf
  refine call_of [] (c_test_132) (by rfl) (by rfl) ?_
  conv => whnf
  refine end_of [] (by rfl) (by rfl) (by rfl) ⟨?_, rfl⟩
  exact congrArg (fun n : Int => (AV.tup [.int .u64 n, .int .i64 0] : V)) (or_nat A B (by omega) (by omega))

set_option maxRecDepth 100000 in
theorem c_pl_xor_64 (A B X Y s : Int) : SpecD S 28 [.str n_xor, .int .u64 A, .int .u64 B, .int .i64 X, .int .i64 Y, .int .u64 s] [] (.int .u64 (IntKind.u64.wrap ((BitVec.ofInt IntKind.u64.bits A ^^^ BitVec.ofInt IntKind.u64.bits B).toNat : Int))) [] := by
  refine specE ok sh28 rfl ?_
  conv => whnf
  exact end_of [] (by rfl) (by rfl) (by rfl) (by exact ⟨rfl, rfl⟩)

set_option maxRecDepth 100000 in
theorem c_bp_133 (A B : Nat) (hA : A < 18446744073709551616) (hB : B < 18446744073709551616) : SpecD S 13 [.int .i64 133, .int .u64 (A : Int), .int .u64 (B : Int)] [] (.tup [.int .u64 ((A ^^^ B : Nat) : Int), .int .i64 0]) [] := by
  have hA1 := hA
  have hB1 := hB
  have k := c_pl_xor_64 (A : Int) (B : Int) (IntKind.i64.wrap (A : Int)) (IntKind.i64.wrap (B : Int)) 64
  rw [xor_nat _ _ (by omega) (by omega)] at k
  refine specE ok sh13 rfl ?_
  conv => whnf
  refine call_of [] (c_fd_xor_64) (by rfl) (by rfl) ?_
  conv => whnf
  refine call_of [] (c_ar_xor) (by rfl) (by rfl) ?_
  conv => whnf
  refine call_of [] (k) (by rfl) (by rfl) ?_
  conv => whnf
  exact end_of [] (by rfl) (by rfl) (by rfl) (by exact ⟨rfl, rfl⟩)

set_option maxRecDepth 100000 in
theorem c_rb_133 (A B : Nat) (hA : A < 18446744073709551616) (hB : B < 18446744073709551616) : SpecD S 15 [.int .i64 133, .int .u64 (A : Int), .int .u64 (B : Int)] [] (.tup [.int .u64 ((A ^^^ B : Nat) : Int), .int .i64 0]) [] := by
  have c := c_refName 133
  rw [r_133] at c
  have hA1 := hA
  have hB1 := hB
  refine specE ok sh15 rfl ?_
  conv => whnf
  refine call_of [] (c_bits_133) (by rfl) (by rfl) ?_
  conv => whnf
  refine call_of [] (c_rcN64 A) (by rfl) (by rfl) ?_
  conv => whnf
  refine call_of [] (c_rcN64 B) (by rfl) (by rfl) ?_
  conv => whnf
  refine call_of [] (c) (by rfl) (by rfl) ?_
  conv => whnf
  refine call_of [] (c_test_133) (by rfl) (by rfl) ?_
  conv => whnf
  refine end_of [] (by rfl) (by rfl) (by rfl) ⟨?_, rfl⟩
  exact congrArg (fun n : Int => (AV.tup [.int .u64 n, .int .i64 0] : V)) (xor_nat A B (by omega) (by omega))

set_option maxRecDepth 100000 in
theorem c_pl_shl_64 (A B : Nat) (X Y : Int) : SpecD S 28 [.str n_shl, .int .u64 (A : Int), .int .u64 (B : Int), .int .i64 X, .int .i64 Y, .int .u64 64] [] (.int .u64 (IntKind.u64.wrap ((A : Int) * 2 ^ (min ((B % 64 : Nat) : Int).toNat IntKind.u64.bits)))) [] := by
  have ht : Int.tmod (B : Int) 64 = ((B % 64 : Nat) : Int) := rfl
  refine specE ok sh28 rfl ?_
  conv => whnf
  refine ⟨by decide, ?_⟩
  conv => whnf
  rw [ht]
  refine ⟨by omega, ?_⟩
  conv => whnf
  exact end_of [] (by rfl) (by rfl) (by rfl) (by exact ⟨rfl, rfl⟩)

set_option maxRecDepth 100000 in
theorem c_bp_134 (A B : Nat) (hA : A < 18446744073709551616) (hB : B < 18446744073709551616) : SpecD S 13 [.int .i64 134, .int .u64 (A : Int), .int .u64 (B : Int)] [] (.tup [.int .u64 ((A * 2 ^ (B % 64) % 2 ^ 64 : Nat) : Int), .int .i64 0]) [] := by
  have hA1 := hA
  have hB1 := hB
  have hr : (B % 64) < 64 := Nat.mod_lt _ (by decide)
  refine specE ok sh13 rfl ?_
  conv => whnf
  refine call_of [] (c_fd_shl_64) (by rfl) (by rfl) ?_
  conv => whnf
  refine call_of [] (c_ar_shl) (by rfl) (by rfl) ?_
  conv => whnf
  refine call_of [] (c_pl_shl_64 A B (IntKind.i64.wrap (A : Int)) (IntKind.i64.wrap (B : Int))) (by rfl) (by rfl) ?_
  conv => whnf
  refine end_of [] (by rfl) (by rfl) (by rfl) ⟨?_, rfl⟩
  exact congrArg (fun n : Int => (AV.tup [.int .u64 n, .int .i64 0] : V)) (by rw [shl_nat _ (B % 64) IntKind.u64.bits (by show (B % 64) ≤ 64; omega) _ rfl, u64_nat])

set_option maxRecDepth 100000 in
theorem c_rb_134 (A B : Nat) (hA : A < 18446744073709551616) (hB : B < 18446744073709551616) : SpecD S 15 [.int .i64 134, .int .u64 (A : Int), .int .u64 (B : Int)] [] (.tup [.int .u64 ((A * 2 ^ (B % 64) % 2 ^ 64 : Nat) : Int), .int .i64 0]) [] := by
  have c := c_refName 134
  rw [r_134] at c
  have hA1 := hA
  have hB1 := hB
  have hr : (B % 64) < 64 := Nat.mod_lt _ (by decide)
  have k := c_shifted_shl A (B % 64) 64 hr (by decide)
  rw [acc_shl] at k
  refine specE ok sh15 rfl ?_
  conv => whnf
  refine call_of [] (c_bits_134) (by rfl) (by rfl) ?_
  conv => whnf
  refine call_of [] (c_rcN64 A) (by rfl) (by rfl) ?_
  conv => whnf
  refine call_of [] (c_rcN64 B) (by rfl) (by rfl) ?_
  conv => whnf
  refine call_of [] (c) (by rfl) (by rfl) ?_
  conv => whnf
  refine call_of [] (c_test_134) (by rfl) (by rfl) ?_
  conv => whnf
  refine ⟨by decide, ?_⟩
  conv => whnf
  rw [show IntKind.i64.wrap (Int.tmod (B : Int) (IntKind.u64.wrap 64)) = (((B % 64) : Nat) : Int) by
    show IntKind.i64.wrap (((B % 64) : Nat) : Int) = _
    rw [IntKind.wrap_i64]; omega]
  refine call_of [] (k) (by rfl) (by rfl) ?_
  conv => whnf
  exact end_of [] (by rfl) (by rfl) (by rfl) (by exact ⟨rfl, rfl⟩)

set_option maxRecDepth 100000 in
theorem c_bp_135 (A B : Nat) (hA : A < 18446744073709551616) (hB : B < 18446744073709551616) : SpecD S 13 [.int .i64 135, .int .u64 (A : Int), .int .u64 (B : Int)] [] (.tup [.int .u64 ((sarN 64 A (B % 64) : Nat) : Int), .int .i64 0]) [] := by
  have hA1 := hA
  have hB1 := hB
  have hr : (B % 64) < 64 := Nat.mod_lt _ (by decide)
  have ht : Int.tmod (B : Int) 64 = (((B % 64) : Nat) : Int) := rfl
  have hm : min ((((B % 64) : Nat) : Int)).toNat IntKind.i64.bits = (B % 64) := by rw [Int.toNat_natCast]; exact Nat.min_eq_left (by show (B % 64) ≤ 64; omega)
  refine specE ok sh13 rfl ?_
  conv => whnf
  refine call_of [] (c_fd_shr_s_64) (by rfl) (by rfl) ?_
  conv => whnf
  refine call_of [] (c_ar_shr_s) (by rfl) (by rfl) ?_
  conv => whnf
  refine ⟨by decide, ?_⟩
  conv => whnf
  rw [ht]
  refine ⟨by omega, ?_⟩
  conv => whnf
  refine end_of [] (by rfl) (by rfl) (by rfl) ⟨?_, rfl⟩
  have hs := @sar64 A (B % 64) hr hA1
  exact congrArg (fun n : Int => (AV.tup [.int .u64 n, .int .i64 0] : V)) (by rw [hm]; exact hs)

set_option maxRecDepth 100000 in
theorem c_rb_135 (A B : Nat) (hA : A < 18446744073709551616) (hB : B < 18446744073709551616) : SpecD S 15 [.int .i64 135, .int .u64 (A : Int), .int .u64 (B : Int)] [] (.tup [.int .u64 ((sarN 64 A (B % 64) : Nat) : Int), .int .i64 0]) [] := by
  have c := c_refName 135
  rw [r_135] at c
  have hA1 := hA
  have hB1 := hB
  have hr : (B % 64) < 64 := Nat.mod_lt _ (by decide)
  have k := c_shifted_shr_s A (B % 64) 64 hr (by decide)
  rw [acc_shr_s hr hA1] at k
  refine specE ok sh15 rfl ?_
  conv => whnf
  refine call_of [] (c_bits_135) (by rfl) (by rfl) ?_
  conv => whnf
  refine call_of [] (c_rcN64 A) (by rfl) (by rfl) ?_
  conv => whnf
  refine call_of [] (c_rcN64 B) (by rfl) (by rfl) ?_
  conv => whnf
  refine call_of [] (c) (by rfl) (by rfl) ?_
  conv => whnf
  refine call_of [] (c_test_135) (by rfl) (by rfl) ?_
  conv => whnf
  refine ⟨by decide, ?_⟩
  conv => whnf
  rw [show IntKind.i64.wrap (Int.tmod (B : Int) (IntKind.u64.wrap 64)) = (((B % 64) : Nat) : Int) by
    show IntKind.i64.wrap (((B % 64) : Nat) : Int) = _
    rw [IntKind.wrap_i64]; omega]
  refine call_of [] (k) (by rfl) (by rfl) ?_
  conv => whnf
  exact end_of [] (by rfl) (by rfl) (by rfl) (by exact ⟨rfl, rfl⟩)

set_option maxRecDepth 100000 in
theorem c_pl_shr_u_64 (A B : Nat) (X Y : Int) : SpecD S 28 [.str n_shr_u, .int .u64 (A : Int), .int .u64 (B : Int), .int .i64 X, .int .i64 Y, .int .u64 64] [] (.int .u64 ((A : Int).fdiv (2 ^ (min ((B % 64 : Nat) : Int).toNat IntKind.u64.bits)))) [] := by
  have ht : Int.tmod (B : Int) 64 = ((B % 64 : Nat) : Int) := rfl
  refine specE ok sh28 rfl ?_
  conv => whnf
  refine ⟨by decide, ?_⟩
  conv => whnf
  rw [ht]
  refine ⟨by omega, ?_⟩
  conv => whnf
  exact end_of [] (by rfl) (by rfl) (by rfl) (by exact ⟨rfl, rfl⟩)

set_option maxRecDepth 100000 in
theorem c_bp_136 (A B : Nat) (hA : A < 18446744073709551616) (hB : B < 18446744073709551616) : SpecD S 13 [.int .i64 136, .int .u64 (A : Int), .int .u64 (B : Int)] [] (.tup [.int .u64 ((A / 2 ^ (B % 64) : Nat) : Int), .int .i64 0]) [] := by
  have hA1 := hA
  have hB1 := hB
  have hr : (B % 64) < 64 := Nat.mod_lt _ (by decide)
  refine specE ok sh13 rfl ?_
  conv => whnf
  refine call_of [] (c_fd_shr_u_64) (by rfl) (by rfl) ?_
  conv => whnf
  refine call_of [] (c_ar_shr_u) (by rfl) (by rfl) ?_
  conv => whnf
  refine call_of [] (c_pl_shr_u_64 A B (IntKind.i64.wrap (A : Int)) (IntKind.i64.wrap (B : Int))) (by rfl) (by rfl) ?_
  conv => whnf
  refine end_of [] (by rfl) (by rfl) (by rfl) ⟨?_, rfl⟩
  exact congrArg (fun n : Int => (AV.tup [.int .u64 n, .int .i64 0] : V)) (by rw [shr_nat _ (B % 64) IntKind.u64.bits (by show (B % 64) ≤ 64; omega) _ rfl])

set_option maxRecDepth 100000 in
theorem c_rb_136 (A B : Nat) (hA : A < 18446744073709551616) (hB : B < 18446744073709551616) : SpecD S 15 [.int .i64 136, .int .u64 (A : Int), .int .u64 (B : Int)] [] (.tup [.int .u64 ((A / 2 ^ (B % 64) : Nat) : Int), .int .i64 0]) [] := by
  have c := c_refName 136
  rw [r_136] at c
  have hA1 := hA
  have hB1 := hB
  have hr : (B % 64) < 64 := Nat.mod_lt _ (by decide)
  have k := c_shifted_shr_u A (B % 64) 64 hr (by decide)
  rw [acc_shr_u _ hA1] at k
  refine specE ok sh15 rfl ?_
  conv => whnf
  refine call_of [] (c_bits_136) (by rfl) (by rfl) ?_
  conv => whnf
  refine call_of [] (c_rcN64 A) (by rfl) (by rfl) ?_
  conv => whnf
  refine call_of [] (c_rcN64 B) (by rfl) (by rfl) ?_
  conv => whnf
  refine call_of [] (c) (by rfl) (by rfl) ?_
  conv => whnf
  refine call_of [] (c_test_136) (by rfl) (by rfl) ?_
  conv => whnf
  refine ⟨by decide, ?_⟩
  conv => whnf
  rw [show IntKind.i64.wrap (Int.tmod (B : Int) (IntKind.u64.wrap 64)) = (((B % 64) : Nat) : Int) by
    show IntKind.i64.wrap (((B % 64) : Nat) : Int) = _
    rw [IntKind.wrap_i64]; omega]
  refine call_of [] (k) (by rfl) (by rfl) ?_
  conv => whnf
  exact end_of [] (by rfl) (by rfl) (by rfl) (by exact ⟨rfl, rfl⟩)

theorem c_bp_137 (A B : Nat) (hA : A < 18446744073709551616) (hB : B < 18446744073709551616) : SpecD S 13 [.int .i64 137, .int .u64 (A : Int), .int .u64 (B : Int)] [] (.tup [.int .u64 ((rolL 64 A (B % 64) : Nat) : Int), .int .i64 0]) [] := c_bin_rotl_64 A B hA hB

set_option maxRecDepth 100000 in
theorem c_rb_137 (A B : Nat) (hA : A < 18446744073709551616) (hB : B < 18446744073709551616) : SpecD S 15 [.int .i64 137, .int .u64 (A : Int), .int .u64 (B : Int)] [] (.tup [.int .u64 ((rolL 64 A (B % 64) : Nat) : Int), .int .i64 0]) [] := by
  have c := c_refName 137
  rw [r_137] at c
  have hA1 := hA
  have hB1 := hB
  have hr : (B % 64) < 64 := Nat.mod_lt _ (by decide)
  have k := c_shifted_rotl A (B % 64) 64 hr (by decide)
  rw [acc_rotl hr hA1] at k
  refine specE ok sh15 rfl ?_
  conv => whnf
  refine call_of [] (c_bits_137) (by rfl) (by rfl) ?_
  conv => whnf
  refine call_of [] (c_rcN64 A) (by rfl) (by rfl) ?_
  conv => whnf
  refine call_of [] (c_rcN64 B) (by rfl) (by rfl) ?_
  conv => whnf
  refine call_of [] (c) (by rfl) (by rfl) ?_
  conv => whnf
  refine call_of [] (c_test_137) (by rfl) (by rfl) ?_
  conv => whnf
  refine ⟨by decide, ?_⟩
  conv => whnf
  rw [show IntKind.i64.wrap (Int.tmod (B : Int) (IntKind.u64.wrap 64)) = (((B % 64) : Nat) : Int) by
    show IntKind.i64.wrap (((B % 64) : Nat) : Int) = _
    rw [IntKind.wrap_i64]; omega]
  refine call_of [] (k) (by rfl) (by rfl) ?_
  conv => whnf
  exact end_of [] (by rfl) (by rfl) (by rfl) (by exact ⟨rfl, rfl⟩)

theorem c_bp_138 (A B : Nat) (hA : A < 18446744073709551616) (hB : B < 18446744073709551616) : SpecD S 13 [.int .i64 138, .int .u64 (A : Int), .int .u64 (B : Int)] [] (.tup [.int .u64 ((rolL 64 A ((64 - (B % 64)) % 64) : Nat) : Int), .int .i64 0]) [] := c_bin_rotr_64 A B hA hB

set_option maxRecDepth 100000 in
theorem c_rb_138 (A B : Nat) (hA : A < 18446744073709551616) (hB : B < 18446744073709551616) : SpecD S 15 [.int .i64 138, .int .u64 (A : Int), .int .u64 (B : Int)] [] (.tup [.int .u64 ((rolL 64 A ((64 - (B % 64)) % 64) : Nat) : Int), .int .i64 0]) [] := by
  have c := c_refName 138
  rw [r_138] at c
  have hA1 := hA
  have hB1 := hB
  have hr : (B % 64) < 64 := Nat.mod_lt _ (by decide)
  have k := c_shifted_rotr A (B % 64) 64 hr (by decide)
  rw [acc_rotr hr hA1] at k
  refine specE ok sh15 rfl ?_
  conv => whnf
  refine call_of [] (c_bits_138) (by rfl) (by rfl) ?_
  conv => whnf
  refine call_of [] (c_rcN64 A) (by rfl) (by rfl) ?_
  conv => whnf
  refine call_of [] (c_rcN64 B) (by rfl) (by rfl) ?_
  conv => whnf
  refine call_of [] (c) (by rfl) (by rfl) ?_
  conv => whnf
  refine call_of [] (c_test_138) (by rfl) (by rfl) ?_
  conv => whnf
  refine ⟨by decide, ?_⟩
  conv => whnf
  rw [show IntKind.i64.wrap (Int.tmod (B : Int) (IntKind.u64.wrap 64)) = (((B % 64) : Nat) : Int) by
    show IntKind.i64.wrap (((B % 64) : Nat) : Int) = _
    rw [IntKind.wrap_i64]; omega]
  refine call_of [] (k) (by rfl) (by rfl) ?_
  conv => whnf
  exact end_of [] (by rfl) (by rfl) (by rfl) (by exact ⟨rfl, rfl⟩)

end Sh
end Go.Proofs.YtoegodeglgeomaaDoor
