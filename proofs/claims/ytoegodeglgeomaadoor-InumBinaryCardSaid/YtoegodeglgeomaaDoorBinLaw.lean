/- MADE BY PROGRAM (bnlaw.py): InumBinary: every operator of two values, and its trap. -/
import Derived.Test.YtoegodeglgeomaaDoorBinC
namespace Go.Proofs.YtoegodeglgeomaaDoor
open Go PopT
namespace Sh

set_option maxRecDepth 100000 in
theorem c_bl {op A B V c : Int} (k0 : SpecD S 12 [.int .i64 op] [] (.int .i64 2) []) (k1 : SpecD S 13 [.int .i64 op, .int .u64 A, .int .u64 B] [] (.tup [.int .u64 V, .int .i64 c]) [])
    (k2 : SpecD S 15 [.int .i64 op, .int .u64 A, .int .u64 B] [] (.tup [.int .u64 V, .int .i64 c]) []) : SpecD S 4 [.int .i64 op, .int .u64 A, .int .u64 B] [] (.bool true) [] := by
  refine specE ok sh4 rfl ?_
  conv => whnf
  refine call_of [] (k1) (by rfl) (by rfl) ?_
  conv => whnf
  refine call_of [] (k0) (by rfl) (by rfl) ?_
  conv => whnf
  refine call_of [] (k2) (by rfl) (by rfl) ?_
  conv => whnf
  cases h1 : (c == c)
  · simp at h1
  conv => whnf
  cases h2 : (V == V)
  · simp at h2
  conv => whnf
  exact end_of [] (by rfl) (by rfl) (by rfl) (by exact ⟨rfl, rfl⟩)

set_option maxRecDepth 100000 in
theorem c_bl0 {op A B : Int} (k0 : SpecD S 12 [.int .i64 op] [] (.int .i64 0) []) (k1 : SpecD S 13 [.int .i64 op, .int .u64 A, .int .u64 B] [] (.tup [.int .u64 0, .int .i64 1]) []) : SpecD S 4 [.int .i64 op, .int .u64 A, .int .u64 B] [] (.bool true) [] := by
  refine specE ok sh4 rfl ?_
  conv => whnf
  refine call_of [] (k1) (by rfl) (by rfl) ?_
  conv => whnf
  refine call_of [] (k0) (by rfl) (by rfl) ?_
  conv => whnf
  refine call_of [] (c_awake) (by rfl) (by rfl) ?_
  conv => whnf
  exact end_of [] (by rfl) (by rfl) (by rfl) (by exact ⟨rfl, rfl⟩)

set_option maxRecDepth 100000 in
theorem c_bl1 {op A B : Int} (k0 : SpecD S 12 [.int .i64 op] [] (.int .i64 1) []) (k1 : SpecD S 13 [.int .i64 op, .int .u64 A, .int .u64 B] [] (.tup [.int .u64 0, .int .i64 1]) []) : SpecD S 4 [.int .i64 op, .int .u64 A, .int .u64 B] [] (.bool true) [] := by
  refine specE ok sh4 rfl ?_
  conv => whnf
  refine call_of [] (k1) (by rfl) (by rfl) ?_
  conv => whnf
  refine call_of [] (k0) (by rfl) (by rfl) ?_
  conv => whnf
  refine call_of [] (c_awake) (by rfl) (by rfl) ?_
  conv => whnf
  exact end_of [] (by rfl) (by rfl) (by rfl) (by exact ⟨rfl, rfl⟩)

set_option maxRecDepth 100000 in
theorem c_bno0 {op : Int} {n : ByteArray} {w : Bool} (f : F2 op n w) (k : SpecD S 27 [.str n] [] (.int .i64 0) []) (A B : Int) : SpecD S 13 [.int .i64 op, .int .u64 A, .int .u64 B] [] (.tup [.int .u64 0, .int .i64 1]) [] := by
  refine specE ok sh13 rfl ?_
  conv => whnf
  refine call_of [] (f) (by rfl) (by rfl) ?_
  conv => whnf
  refine call_of [] (k) (by rfl) (by rfl) ?_
  conv => whnf
  exact end_of [] (by rfl) (by rfl) (by rfl) (by exact ⟨rfl, rfl⟩)

set_option maxRecDepth 100000 in
theorem c_bno1 {op : Int} {n : ByteArray} {w : Bool} (f : F2 op n w) (k : SpecD S 27 [.str n] [] (.int .i64 1) []) (A B : Int) : SpecD S 13 [.int .i64 op, .int .u64 A, .int .u64 B] [] (.tup [.int .u64 0, .int .i64 1]) [] := by
  refine specE ok sh13 rfl ?_
  conv => whnf
  refine call_of [] (f) (by rfl) (by rfl) ?_
  conv => whnf
  refine call_of [] (k) (by rfl) (by rfl) ?_
  conv => whnf
  exact end_of [] (by rfl) (by rfl) (by rfl) (by exact ⟨rfl, rfl⟩)

theorem minrel32 {A : Nat} (h : A < 4294967296) : (IntKind.i64.wrap (IntKind.i32.wrap (A : Int)) == -2147483648) = ((A : Int) == 2147483648) := by
  rw [Bool.eq_iff_iff]; simp only [beq_iff_eq]
  rcases Nat.lt_or_ge A 2147483648 with k | k
  · rw [sg32_lt (by omega) (by omega)]; omega
  · rw [sg32_ge (by omega) (by omega)]; omega
theorem minrel64 {A : Nat} (h : A < 18446744073709551616) : (IntKind.i64.wrap (A : Int) == -9223372036854775808) = ((A : Int) == 9223372036854775808) := by
  rw [Bool.eq_iff_iff]; simp only [beq_iff_eq]
  rw [IntKind.wrap_i64]; omega
theorem sgne32 {A : Nat} (h : A < 4294967296) (h0 : ((A : Int) == 0) = false) : IntKind.i64.wrap (IntKind.i32.wrap (A : Int)) ≠ 0 := by
  simp only [beq_eq_false_iff_ne, ne_eq] at h0
  rcases Nat.lt_or_ge A 2147483648 with k | k
  · rw [sg32_lt (by omega) (by omega)]; exact h0
  · rw [sg32_ge (by omega) (by omega)]; omega
theorem sgne64 {A : Nat} (h : A < 18446744073709551616) (h0 : ((A : Int) == 0) = false) : IntKind.i64.wrap (A : Int) ≠ 0 := by
  simp only [beq_eq_false_iff_ne, ne_eq] at h0
  rw [IntKind.wrap_i64]; omega
theorem tmod_neg1 {x y : Int} (h : (y == -1) = true) : Int.tmod x y = 0 := by
  have : y = -1 := by simpa using h
  rw [this]; simp

set_option maxRecDepth 100000 in
theorem c_rdv_div_u_32 (A B : Nat) (hA : A < 4294967296) (hB : B < 4294967296) (h0 : ((B : Int) == 0) = false) : SpecD S 32 [.str n_div_u, .int .u64 (A : Int), .int .u64 (B : Int), .int .i64 32] [] (.tup [.int .u64 ((A / B : Nat) : Int), .int .i64 0]) [] := by
  refine specE ok sh32 rfl ?_
  conv => whnf
  refine call_of [] (c_rsN32 A hA) (by rfl) (by rfl) ?_
  conv => whnf
  refine call_of [] (c_rsN32 B hB) (by rfl) (by rfl) ?_
  conv => whnf
  refine ⟨by decide, ?_⟩
  conv => whnf
  cases h1 : ((A : Int) == (IntKind.u64.wrap (1 * 2 ^ (min (IntKind.u64.wrap (IntKind.i64.wrap (32 - 1))).toNat IntKind.u64.bits))))
  · conv => whnf
    refine ⟨by simpa using h0, ?_⟩
    conv => whnf
    refine end_of [] (by rfl) (by rfl) (by rfl) ⟨congrArg (fun n : Int => (AV.tup [.int .u64 n, .int .i64 0] : V)) (by exact u64_nat' (Nat.lt_of_le_of_lt (Nat.div_le_self _ _) (by omega))), rfl⟩
  · conv => whnf
    cases h2 : ((IntKind.i64.wrap (IntKind.i32.wrap (B : Int))) == -1)
    · conv => whnf
      refine ⟨by simpa using h0, ?_⟩
      conv => whnf
      refine end_of [] (by rfl) (by rfl) (by rfl) ⟨congrArg (fun n : Int => (AV.tup [.int .u64 n, .int .i64 0] : V)) (by exact u64_nat' (Nat.lt_of_le_of_lt (Nat.div_le_self _ _) (by omega))), rfl⟩
    · conv => whnf
      refine ⟨by simpa using h0, ?_⟩
      conv => whnf
      refine end_of [] (by rfl) (by rfl) (by rfl) ⟨congrArg (fun n : Int => (AV.tup [.int .u64 n, .int .i64 0] : V)) (by exact u64_nat' (Nat.lt_of_le_of_lt (Nat.div_le_self _ _) (by omega))), rfl⟩

set_option maxRecDepth 100000 in
theorem c_rdv_rem_u_32 (A B : Nat) (hA : A < 4294967296) (hB : B < 4294967296) (h0 : ((B : Int) == 0) = false) : SpecD S 32 [.str n_rem_u, .int .u64 (A : Int), .int .u64 (B : Int), .int .i64 32] [] (.tup [.int .u64 ((A % B : Nat) : Int), .int .i64 0]) [] := by
  refine specE ok sh32 rfl ?_
  conv => whnf
  refine call_of [] (c_rsN32 A hA) (by rfl) (by rfl) ?_
  conv => whnf
  refine call_of [] (c_rsN32 B hB) (by rfl) (by rfl) ?_
  conv => whnf
  refine ⟨by decide, ?_⟩
  conv => whnf
  cases h1 : ((A : Int) == (IntKind.u64.wrap (1 * 2 ^ (min (IntKind.u64.wrap (IntKind.i64.wrap (32 - 1))).toNat IntKind.u64.bits))))
  · conv => whnf
    refine ⟨by simpa using h0, ?_⟩
    conv => whnf
    refine end_of [] (by rfl) (by rfl) (by rfl) ⟨congrArg (fun n : Int => (AV.tup [.int .u64 n, .int .i64 0] : V)) (rfl), rfl⟩
  · conv => whnf
    cases h2 : ((IntKind.i64.wrap (IntKind.i32.wrap (B : Int))) == -1)
    · conv => whnf
      refine ⟨by simpa using h0, ?_⟩
      conv => whnf
      refine end_of [] (by rfl) (by rfl) (by rfl) ⟨congrArg (fun n : Int => (AV.tup [.int .u64 n, .int .i64 0] : V)) (rfl), rfl⟩
    · conv => whnf
      refine ⟨by simpa using h0, ?_⟩
      conv => whnf
      refine end_of [] (by rfl) (by rfl) (by rfl) ⟨congrArg (fun n : Int => (AV.tup [.int .u64 n, .int .i64 0] : V)) (rfl), rfl⟩

set_option maxRecDepth 100000 in
theorem c_rdv_rem_s_32 (A B : Nat) (hA : A < 4294967296) (hB : B < 4294967296) (h0 : ((B : Int) == 0) = false) :
    ((((A : Int) == 2147483648) && ((IntKind.i64.wrap (IntKind.i32.wrap (B : Int))) == -1)) = true → SpecD S 32 [.str n_rem_s, .int .u64 (A : Int), .int .u64 (B : Int), .int .i64 32] [] (.tup [.int .u64 0, .int .i64 0]) []) ∧
    ((((A : Int) == 2147483648) && ((IntKind.i64.wrap (IntKind.i32.wrap (B : Int))) == -1)) = false → SpecD S 32 [.str n_rem_s, .int .u64 (A : Int), .int .u64 (B : Int), .int .i64 32] [] (.tup [.int .u64 (IntKind.u64.wrap (IntKind.u32.wrap (IntKind.u64.wrap (Int.tmod (IntKind.i64.wrap (IntKind.i32.wrap (A : Int))) (IntKind.i64.wrap (IntKind.i32.wrap (B : Int))))))), .int .i64 0]) []) := by
  have hne := sgne32 hB h0
  have hl : ((A : Int) == (IntKind.u64.wrap (1 * 2 ^ (min (IntKind.u64.wrap (IntKind.i64.wrap (32 - 1))).toNat IntKind.u64.bits)))) = ((A : Int) == 2147483648) := rfl
  constructor
  · intro h
    rw [Bool.and_eq_true] at h
    refine specE ok sh32 rfl ?_
    conv => whnf
    refine call_of [] (c_rsN32 A hA) (by rfl) (by rfl) ?_
    conv => whnf
    refine call_of [] (c_rsN32 B hB) (by rfl) (by rfl) ?_
    conv => whnf
    refine ⟨by decide, ?_⟩
    conv => whnf
    rw [hl, h.1]
    conv => whnf
    rw [h.2]
    conv => whnf
    exact end_of [] (by rfl) (by rfl) (by rfl) (by exact ⟨rfl, rfl⟩)
  · intro h
    rw [Bool.and_eq_false_iff] at h
    refine specE ok sh32 rfl ?_
    conv => whnf
    refine call_of [] (c_rsN32 A hA) (by rfl) (by rfl) ?_
    conv => whnf
    refine call_of [] (c_rsN32 B hB) (by rfl) (by rfl) ?_
    conv => whnf
    refine ⟨by decide, ?_⟩
    conv => whnf
    rw [hl]
    cases h1 : ((A : Int) == 2147483648)
    · conv => whnf
      refine ⟨hne, ?_⟩
      conv => whnf
      refine call_of [] (c_rcut32 (IntKind.u64.wrap (Int.tmod (IntKind.i64.wrap (IntKind.i32.wrap (A : Int))) (IntKind.i64.wrap (IntKind.i32.wrap (B : Int))))) (u64_nonneg _)) (by rfl) (by rfl) ?_
      conv => whnf
      exact end_of [] (by rfl) (by rfl) (by rfl) (by exact ⟨rfl, rfl⟩)
    · rw [h1] at h
      have h2 : ((IntKind.i64.wrap (IntKind.i32.wrap (B : Int))) == -1) = false := by simpa using h
      conv => whnf
      rw [h2]
      conv => whnf
      refine ⟨hne, ?_⟩
      conv => whnf
      refine call_of [] (c_rcut32 (IntKind.u64.wrap (Int.tmod (IntKind.i64.wrap (IntKind.i32.wrap (A : Int))) (IntKind.i64.wrap (IntKind.i32.wrap (B : Int))))) (u64_nonneg _)) (by rfl) (by rfl) ?_
      conv => whnf
      exact end_of [] (by rfl) (by rfl) (by rfl) (by exact ⟨rfl, rfl⟩)

set_option maxRecDepth 100000 in
theorem c_rdv_div_s_32 (A B : Nat) (hA : A < 4294967296) (hB : B < 4294967296) (h0 : ((B : Int) == 0) = false) :
    ((((A : Int) == 2147483648) && ((IntKind.i64.wrap (IntKind.i32.wrap (B : Int))) == -1)) = true → SpecD S 32 [.str n_div_s, .int .u64 (A : Int), .int .u64 (B : Int), .int .i64 32] [] (.tup [.int .u64 0, .int .i64 31]) []) ∧
    ((((A : Int) == 2147483648) && ((IntKind.i64.wrap (IntKind.i32.wrap (B : Int))) == -1)) = false → SpecD S 32 [.str n_div_s, .int .u64 (A : Int), .int .u64 (B : Int), .int .i64 32] [] (.tup [.int .u64 (IntKind.u64.wrap (IntKind.u32.wrap (IntKind.u64.wrap (IntKind.i64.wrap (Int.tdiv (IntKind.i64.wrap (IntKind.i32.wrap (A : Int))) (IntKind.i64.wrap (IntKind.i32.wrap (B : Int)))))))), .int .i64 0]) []) := by
  have hne := sgne32 hB h0
  have hl : ((A : Int) == (IntKind.u64.wrap (1 * 2 ^ (min (IntKind.u64.wrap (IntKind.i64.wrap (32 - 1))).toNat IntKind.u64.bits)))) = ((A : Int) == 2147483648) := rfl
  constructor
  · intro h
    rw [Bool.and_eq_true] at h
    refine specE ok sh32 rfl ?_
    conv => whnf
    refine call_of [] (c_rsN32 A hA) (by rfl) (by rfl) ?_
    conv => whnf
    refine call_of [] (c_rsN32 B hB) (by rfl) (by rfl) ?_
    conv => whnf
    refine ⟨by decide, ?_⟩
    conv => whnf
    rw [hl, h.1]
    conv => whnf
    rw [h.2]
    conv => whnf
    exact end_of [] (by rfl) (by rfl) (by rfl) (by exact ⟨rfl, rfl⟩)
  · intro h
    rw [Bool.and_eq_false_iff] at h
    refine specE ok sh32 rfl ?_
    conv => whnf
    refine call_of [] (c_rsN32 A hA) (by rfl) (by rfl) ?_
    conv => whnf
    refine call_of [] (c_rsN32 B hB) (by rfl) (by rfl) ?_
    conv => whnf
    refine ⟨by decide, ?_⟩
    conv => whnf
    rw [hl]
    cases h1 : ((A : Int) == 2147483648)
    · conv => whnf
      refine ⟨hne, ?_⟩
      conv => whnf
      refine call_of [] (c_rcut32 (IntKind.u64.wrap (IntKind.i64.wrap (Int.tdiv (IntKind.i64.wrap (IntKind.i32.wrap (A : Int))) (IntKind.i64.wrap (IntKind.i32.wrap (B : Int)))))) (u64_nonneg _)) (by rfl) (by rfl) ?_
      conv => whnf
      exact end_of [] (by rfl) (by rfl) (by rfl) (by exact ⟨rfl, rfl⟩)
    · rw [h1] at h
      have h2 : ((IntKind.i64.wrap (IntKind.i32.wrap (B : Int))) == -1) = false := by simpa using h
      conv => whnf
      rw [h2]
      conv => whnf
      refine ⟨hne, ?_⟩
      conv => whnf
      refine call_of [] (c_rcut32 (IntKind.u64.wrap (IntKind.i64.wrap (Int.tdiv (IntKind.i64.wrap (IntKind.i32.wrap (A : Int))) (IntKind.i64.wrap (IntKind.i32.wrap (B : Int)))))) (u64_nonneg _)) (by rfl) (by rfl) ?_
      conv => whnf
      exact end_of [] (by rfl) (by rfl) (by rfl) (by exact ⟨rfl, rfl⟩)

set_option maxRecDepth 100000 in
theorem c_rdv_div_u_64 (A B : Nat) (hA : A < 18446744073709551616) (hB : B < 18446744073709551616) (h0 : ((B : Int) == 0) = false) : SpecD S 32 [.str n_div_u, .int .u64 (A : Int), .int .u64 (B : Int), .int .i64 64] [] (.tup [.int .u64 ((A / B : Nat) : Int), .int .i64 0]) [] := by
  refine specE ok sh32 rfl ?_
  conv => whnf
  refine call_of [] (c_rsN64 A hA) (by rfl) (by rfl) ?_
  conv => whnf
  refine call_of [] (c_rsN64 B hB) (by rfl) (by rfl) ?_
  conv => whnf
  refine ⟨by decide, ?_⟩
  conv => whnf
  cases h1 : ((A : Int) == (IntKind.u64.wrap (1 * 2 ^ (min (IntKind.u64.wrap (IntKind.i64.wrap (64 - 1))).toNat IntKind.u64.bits))))
  · conv => whnf
    refine ⟨by simpa using h0, ?_⟩
    conv => whnf
    refine end_of [] (by rfl) (by rfl) (by rfl) ⟨congrArg (fun n : Int => (AV.tup [.int .u64 n, .int .i64 0] : V)) (by exact u64_nat' (Nat.lt_of_le_of_lt (Nat.div_le_self _ _) (by omega))), rfl⟩
  · conv => whnf
    cases h2 : ((IntKind.i64.wrap (B : Int)) == -1)
    · conv => whnf
      refine ⟨by simpa using h0, ?_⟩
      conv => whnf
      refine end_of [] (by rfl) (by rfl) (by rfl) ⟨congrArg (fun n : Int => (AV.tup [.int .u64 n, .int .i64 0] : V)) (by exact u64_nat' (Nat.lt_of_le_of_lt (Nat.div_le_self _ _) (by omega))), rfl⟩
    · conv => whnf
      refine ⟨by simpa using h0, ?_⟩
      conv => whnf
      refine end_of [] (by rfl) (by rfl) (by rfl) ⟨congrArg (fun n : Int => (AV.tup [.int .u64 n, .int .i64 0] : V)) (by exact u64_nat' (Nat.lt_of_le_of_lt (Nat.div_le_self _ _) (by omega))), rfl⟩

set_option maxRecDepth 100000 in
theorem c_rdv_rem_u_64 (A B : Nat) (hA : A < 18446744073709551616) (hB : B < 18446744073709551616) (h0 : ((B : Int) == 0) = false) : SpecD S 32 [.str n_rem_u, .int .u64 (A : Int), .int .u64 (B : Int), .int .i64 64] [] (.tup [.int .u64 ((A % B : Nat) : Int), .int .i64 0]) [] := by
  refine specE ok sh32 rfl ?_
  conv => whnf
  refine call_of [] (c_rsN64 A hA) (by rfl) (by rfl) ?_
  conv => whnf
  refine call_of [] (c_rsN64 B hB) (by rfl) (by rfl) ?_
  conv => whnf
  refine ⟨by decide, ?_⟩
  conv => whnf
  cases h1 : ((A : Int) == (IntKind.u64.wrap (1 * 2 ^ (min (IntKind.u64.wrap (IntKind.i64.wrap (64 - 1))).toNat IntKind.u64.bits))))
  · conv => whnf
    refine ⟨by simpa using h0, ?_⟩
    conv => whnf
    refine end_of [] (by rfl) (by rfl) (by rfl) ⟨congrArg (fun n : Int => (AV.tup [.int .u64 n, .int .i64 0] : V)) (rfl), rfl⟩
  · conv => whnf
    cases h2 : ((IntKind.i64.wrap (B : Int)) == -1)
    · conv => whnf
      refine ⟨by simpa using h0, ?_⟩
      conv => whnf
      refine end_of [] (by rfl) (by rfl) (by rfl) ⟨congrArg (fun n : Int => (AV.tup [.int .u64 n, .int .i64 0] : V)) (rfl), rfl⟩
    · conv => whnf
      refine ⟨by simpa using h0, ?_⟩
      conv => whnf
      refine end_of [] (by rfl) (by rfl) (by rfl) ⟨congrArg (fun n : Int => (AV.tup [.int .u64 n, .int .i64 0] : V)) (rfl), rfl⟩

set_option maxRecDepth 100000 in
theorem c_rdv_rem_s_64 (A B : Nat) (hA : A < 18446744073709551616) (hB : B < 18446744073709551616) (h0 : ((B : Int) == 0) = false) :
    ((((A : Int) == 9223372036854775808) && ((IntKind.i64.wrap (B : Int)) == -1)) = true → SpecD S 32 [.str n_rem_s, .int .u64 (A : Int), .int .u64 (B : Int), .int .i64 64] [] (.tup [.int .u64 0, .int .i64 0]) []) ∧
    ((((A : Int) == 9223372036854775808) && ((IntKind.i64.wrap (B : Int)) == -1)) = false → SpecD S 32 [.str n_rem_s, .int .u64 (A : Int), .int .u64 (B : Int), .int .i64 64] [] (.tup [.int .u64 (IntKind.u64.wrap (Int.tmod (IntKind.i64.wrap (A : Int)) (IntKind.i64.wrap (B : Int)))), .int .i64 0]) []) := by
  have hne := sgne64 hB h0
  have hl : ((A : Int) == (IntKind.u64.wrap (1 * 2 ^ (min (IntKind.u64.wrap (IntKind.i64.wrap (64 - 1))).toNat IntKind.u64.bits)))) = ((A : Int) == 9223372036854775808) := rfl
  constructor
  · intro h
    rw [Bool.and_eq_true] at h
    refine specE ok sh32 rfl ?_
    conv => whnf
    refine call_of [] (c_rsN64 A hA) (by rfl) (by rfl) ?_
    conv => whnf
    refine call_of [] (c_rsN64 B hB) (by rfl) (by rfl) ?_
    conv => whnf
    refine ⟨by decide, ?_⟩
    conv => whnf
    rw [hl, h.1]
    conv => whnf
    rw [h.2]
    conv => whnf
    exact end_of [] (by rfl) (by rfl) (by rfl) (by exact ⟨rfl, rfl⟩)
  · intro h
    rw [Bool.and_eq_false_iff] at h
    refine specE ok sh32 rfl ?_
    conv => whnf
    refine call_of [] (c_rsN64 A hA) (by rfl) (by rfl) ?_
    conv => whnf
    refine call_of [] (c_rsN64 B hB) (by rfl) (by rfl) ?_
    conv => whnf
    refine ⟨by decide, ?_⟩
    conv => whnf
    rw [hl]
    cases h1 : ((A : Int) == 9223372036854775808)
    · conv => whnf
      refine ⟨hne, ?_⟩
      conv => whnf
      refine call_of [] (c_rcut64 (IntKind.u64.wrap (Int.tmod (IntKind.i64.wrap (A : Int)) (IntKind.i64.wrap (B : Int))))) (by rfl) (by rfl) ?_
      conv => whnf
      exact end_of [] (by rfl) (by rfl) (by rfl) (by exact ⟨rfl, rfl⟩)
    · rw [h1] at h
      have h2 : ((IntKind.i64.wrap (B : Int)) == -1) = false := by simpa using h
      conv => whnf
      rw [h2]
      conv => whnf
      refine ⟨hne, ?_⟩
      conv => whnf
      refine call_of [] (c_rcut64 (IntKind.u64.wrap (Int.tmod (IntKind.i64.wrap (A : Int)) (IntKind.i64.wrap (B : Int))))) (by rfl) (by rfl) ?_
      conv => whnf
      exact end_of [] (by rfl) (by rfl) (by rfl) (by exact ⟨rfl, rfl⟩)

set_option maxRecDepth 100000 in
theorem c_rdv_div_s_64 (A B : Nat) (hA : A < 18446744073709551616) (hB : B < 18446744073709551616) (h0 : ((B : Int) == 0) = false) :
    ((((A : Int) == 9223372036854775808) && ((IntKind.i64.wrap (B : Int)) == -1)) = true → SpecD S 32 [.str n_div_s, .int .u64 (A : Int), .int .u64 (B : Int), .int .i64 64] [] (.tup [.int .u64 0, .int .i64 31]) []) ∧
    ((((A : Int) == 9223372036854775808) && ((IntKind.i64.wrap (B : Int)) == -1)) = false → SpecD S 32 [.str n_div_s, .int .u64 (A : Int), .int .u64 (B : Int), .int .i64 64] [] (.tup [.int .u64 (IntKind.u64.wrap (IntKind.i64.wrap (Int.tdiv (IntKind.i64.wrap (A : Int)) (IntKind.i64.wrap (B : Int))))), .int .i64 0]) []) := by
  have hne := sgne64 hB h0
  have hl : ((A : Int) == (IntKind.u64.wrap (1 * 2 ^ (min (IntKind.u64.wrap (IntKind.i64.wrap (64 - 1))).toNat IntKind.u64.bits)))) = ((A : Int) == 9223372036854775808) := rfl
  constructor
  · intro h
    rw [Bool.and_eq_true] at h
    refine specE ok sh32 rfl ?_
    conv => whnf
    refine call_of [] (c_rsN64 A hA) (by rfl) (by rfl) ?_
    conv => whnf
    refine call_of [] (c_rsN64 B hB) (by rfl) (by rfl) ?_
    conv => whnf
    refine ⟨by decide, ?_⟩
    conv => whnf
    rw [hl, h.1]
    conv => whnf
    rw [h.2]
    conv => whnf
    exact end_of [] (by rfl) (by rfl) (by rfl) (by exact ⟨rfl, rfl⟩)
  · intro h
    rw [Bool.and_eq_false_iff] at h
    refine specE ok sh32 rfl ?_
    conv => whnf
    refine call_of [] (c_rsN64 A hA) (by rfl) (by rfl) ?_
    conv => whnf
    refine call_of [] (c_rsN64 B hB) (by rfl) (by rfl) ?_
    conv => whnf
    refine ⟨by decide, ?_⟩
    conv => whnf
    rw [hl]
    cases h1 : ((A : Int) == 9223372036854775808)
    · conv => whnf
      refine ⟨hne, ?_⟩
      conv => whnf
      refine call_of [] (c_rcut64 (IntKind.u64.wrap (IntKind.i64.wrap (Int.tdiv (IntKind.i64.wrap (A : Int)) (IntKind.i64.wrap (B : Int)))))) (by rfl) (by rfl) ?_
      conv => whnf
      exact end_of [] (by rfl) (by rfl) (by rfl) (by exact ⟨rfl, rfl⟩)
    · rw [h1] at h
      have h2 : ((IntKind.i64.wrap (B : Int)) == -1) = false := by simpa using h
      conv => whnf
      rw [h2]
      conv => whnf
      refine ⟨hne, ?_⟩
      conv => whnf
      refine call_of [] (c_rcut64 (IntKind.u64.wrap (IntKind.i64.wrap (Int.tdiv (IntKind.i64.wrap (A : Int)) (IntKind.i64.wrap (B : Int)))))) (by rfl) (by rfl) ?_
      conv => whnf
      exact end_of [] (by rfl) (by rfl) (by rfl) (by exact ⟨rfl, rfl⟩)

set_option maxRecDepth 100000 in
theorem c_rbz_109 (A B : Nat) (_hA : A < 18446744073709551616) (_hB : B < 18446744073709551616) (h0 : (((B % 4294967296 : Nat) : Int) == 0) = true) : SpecD S 15 [.int .i64 109, .int .u64 (A : Int), .int .u64 (B : Int)] [] (.tup [.int .u64 0, .int .i64 30]) [] := by
  have c := c_refName 109
  rw [r_109] at c
  refine specE ok sh15 rfl ?_
  conv => whnf
  refine call_of [] (c_bits_109) (by rfl) (by rfl) ?_
  conv => whnf
  refine call_of [] (c_rcN32 A) (by rfl) (by rfl) ?_
  conv => whnf
  refine call_of [] (c_rcN32 B) (by rfl) (by rfl) ?_
  conv => whnf
  refine call_of [] (c) (by rfl) (by rfl) ?_
  conv => whnf
  refine call_of [] (c_test_109) (by rfl) (by rfl) ?_
  conv => whnf
  simp only [h0]
  conv => whnf
  exact end_of [] (by rfl) (by rfl) (by rfl) (by exact ⟨rfl, rfl⟩)

set_option maxRecDepth 100000 in
theorem c_rbk_109 (A B : Nat) (_hA : A < 18446744073709551616) (_hB : B < 18446744073709551616) {V e : Int} (h0 : (((B % 4294967296 : Nat) : Int) == 0) = false) (k : SpecD S 32 [.str n_div_s, .int .u64 ((A % 4294967296 : Nat) : Int), .int .u64 ((B % 4294967296 : Nat) : Int), .int .i64 32] [] (.tup [.int .u64 V, .int .i64 e]) []) : SpecD S 15 [.int .i64 109, .int .u64 (A : Int), .int .u64 (B : Int)] [] (.tup [.int .u64 V, .int .i64 e]) [] := by
  have c := c_refName 109
  rw [r_109] at c
  refine specE ok sh15 rfl ?_
  conv => whnf
  refine call_of [] (c_bits_109) (by rfl) (by rfl) ?_
  conv => whnf
  refine call_of [] (c_rcN32 A) (by rfl) (by rfl) ?_
  conv => whnf
  refine call_of [] (c_rcN32 B) (by rfl) (by rfl) ?_
  conv => whnf
  refine call_of [] (c) (by rfl) (by rfl) ?_
  conv => whnf
  refine call_of [] (c_test_109) (by rfl) (by rfl) ?_
  conv => whnf
  simp only [h0]
  conv => whnf
  refine call_of [] (k) (by rfl) (by rfl) ?_
  conv => whnf
  exact end_of [] (by rfl) (by rfl) (by rfl) (by exact ⟨rfl, rfl⟩)

theorem c_bl_109 (A B : Nat) (hA : A < 18446744073709551616) (hB : B < 18446744073709551616) : SpecD S 4 [.int .i64 109, .int .u64 (A : Int), .int .u64 (B : Int)] [] (.bool true) [] := by
  have hA1 : A % 4294967296 < 4294967296 := Nat.mod_lt _ (by decide)
  have hB1 : B % 4294967296 < 4294967296 := Nat.mod_lt _ (by decide)
  cases h0 : (((B % 4294967296 : Nat) : Int) == 0)
  rotate_left
  · exact c_bl (c_rar_div_s 109 r_109) (c_bin_div_s_32_z (A : Int) (B : Int) (by rw [e32]; exact h0)) (c_rbz_109 A B hA hB h0)
  obtain ⟨r1, r2⟩ := c_rdv_div_s_32 (A % 4294967296) (B % 4294967296) hA1 hB1 h0
  have hne := sgne32 hB1 h0
  cases h1 : ((IntKind.i64.wrap (IntKind.i32.wrap ((B % 4294967296 : Nat) : Int))) == -1)
  · have k := c_bin_div_s_32_k1 (A : Int) (B : Int) (by rw [e32]; exact h0) (by rw [e32]; exact h1) (by rw [e32]; exact hne)
    rw [e32 A, e32 B] at k
    exact c_bl (c_rar_div_s 109 r_109) k (c_rbk_109 A B hA hB h0 (r2 (by rw [h1, Bool.and_false])))
  · cases h2 : (((A % 4294967296 : Nat) : Int) == 2147483648)
    · have k := c_bin_div_s_32_k2 (A : Int) (B : Int) (by rw [e32]; exact h0) (by rw [e32]; exact h1) (by rw [e32]; rw [minrel32 hA1]; exact h2) (by rw [e32]; exact hne)
      rw [e32 A, e32 B] at k
      exact c_bl (c_rar_div_s 109 r_109) k (c_rbk_109 A B hA hB h0 (r2 (by rw [h2, Bool.false_and])))
    · have k := c_bin_div_s_32_o (A : Int) (B : Int) (by rw [e32]; exact h0) (by rw [e32]; exact h1) (by rw [e32]; rw [minrel32 hA1]; exact h2)
      exact c_bl (c_rar_div_s 109 r_109) k (c_rbk_109 A B hA hB h0 (r1 (by rw [h2, h1]; rfl)))

set_option maxRecDepth 100000 in
theorem c_rbz_110 (A B : Nat) (_hA : A < 18446744073709551616) (_hB : B < 18446744073709551616) (h0 : (((B % 4294967296 : Nat) : Int) == 0) = true) : SpecD S 15 [.int .i64 110, .int .u64 (A : Int), .int .u64 (B : Int)] [] (.tup [.int .u64 0, .int .i64 30]) [] := by
  have c := c_refName 110
  rw [r_110] at c
  refine specE ok sh15 rfl ?_
  conv => whnf
  refine call_of [] (c_bits_110) (by rfl) (by rfl) ?_
  conv => whnf
  refine call_of [] (c_rcN32 A) (by rfl) (by rfl) ?_
  conv => whnf
  refine call_of [] (c_rcN32 B) (by rfl) (by rfl) ?_
  conv => whnf
  refine call_of [] (c) (by rfl) (by rfl) ?_
  conv => whnf
  refine call_of [] (c_test_110) (by rfl) (by rfl) ?_
  conv => whnf
  simp only [h0]
  conv => whnf
  exact end_of [] (by rfl) (by rfl) (by rfl) (by exact ⟨rfl, rfl⟩)

set_option maxRecDepth 100000 in
theorem c_rbk_110 (A B : Nat) (_hA : A < 18446744073709551616) (_hB : B < 18446744073709551616) {V e : Int} (h0 : (((B % 4294967296 : Nat) : Int) == 0) = false) (k : SpecD S 32 [.str n_div_u, .int .u64 ((A % 4294967296 : Nat) : Int), .int .u64 ((B % 4294967296 : Nat) : Int), .int .i64 32] [] (.tup [.int .u64 V, .int .i64 e]) []) : SpecD S 15 [.int .i64 110, .int .u64 (A : Int), .int .u64 (B : Int)] [] (.tup [.int .u64 V, .int .i64 e]) [] := by
  have c := c_refName 110
  rw [r_110] at c
  refine specE ok sh15 rfl ?_
  conv => whnf
  refine call_of [] (c_bits_110) (by rfl) (by rfl) ?_
  conv => whnf
  refine call_of [] (c_rcN32 A) (by rfl) (by rfl) ?_
  conv => whnf
  refine call_of [] (c_rcN32 B) (by rfl) (by rfl) ?_
  conv => whnf
  refine call_of [] (c) (by rfl) (by rfl) ?_
  conv => whnf
  refine call_of [] (c_test_110) (by rfl) (by rfl) ?_
  conv => whnf
  simp only [h0]
  conv => whnf
  refine call_of [] (k) (by rfl) (by rfl) ?_
  conv => whnf
  exact end_of [] (by rfl) (by rfl) (by rfl) (by exact ⟨rfl, rfl⟩)

theorem c_bl_110 (A B : Nat) (hA : A < 18446744073709551616) (hB : B < 18446744073709551616) : SpecD S 4 [.int .i64 110, .int .u64 (A : Int), .int .u64 (B : Int)] [] (.bool true) [] := by
  have hA1 : A % 4294967296 < 4294967296 := Nat.mod_lt _ (by decide)
  have hB1 : B % 4294967296 < 4294967296 := Nat.mod_lt _ (by decide)
  cases h0 : (((B % 4294967296 : Nat) : Int) == 0)
  rotate_left
  · exact c_bl (c_rar_div_u 110 r_110) (c_bin_div_u_32_z (A : Int) (B : Int) (by rw [e32]; exact h0)) (c_rbz_110 A B hA hB h0)
  have k := c_bin_div_u_32_k (A : Int) (B : Int) (by rw [e32]; exact h0)
  rw [e32 A, e32 B, (show IntKind.u64.wrap (Int.tdiv ((A % 4294967296 : Nat) : Int) ((B % 4294967296 : Nat) : Int)) = (((A % 4294967296) / (B % 4294967296) : Nat) : Int) from u64_nat' (Nat.lt_of_le_of_lt (Nat.div_le_self _ _) (by omega))), e32' (Nat.lt_of_le_of_lt (Nat.div_le_self _ _) hA1)] at k
  exact c_bl (c_rar_div_u 110 r_110) k (c_rbk_110 A B hA hB h0 (c_rdv_div_u_32 (A % 4294967296) (B % 4294967296) hA1 hB1 h0))

set_option maxRecDepth 100000 in
theorem c_rbz_111 (A B : Nat) (_hA : A < 18446744073709551616) (_hB : B < 18446744073709551616) (h0 : (((B % 4294967296 : Nat) : Int) == 0) = true) : SpecD S 15 [.int .i64 111, .int .u64 (A : Int), .int .u64 (B : Int)] [] (.tup [.int .u64 0, .int .i64 30]) [] := by
  have c := c_refName 111
  rw [r_111] at c
  refine specE ok sh15 rfl ?_
  conv => whnf
  refine call_of [] (c_bits_111) (by rfl) (by rfl) ?_
  conv => whnf
  refine call_of [] (c_rcN32 A) (by rfl) (by rfl) ?_
  conv => whnf
  refine call_of [] (c_rcN32 B) (by rfl) (by rfl) ?_
  conv => whnf
  refine call_of [] (c) (by rfl) (by rfl) ?_
  conv => whnf
  refine call_of [] (c_test_111) (by rfl) (by rfl) ?_
  conv => whnf
  simp only [h0]
  conv => whnf
  exact end_of [] (by rfl) (by rfl) (by rfl) (by exact ⟨rfl, rfl⟩)

set_option maxRecDepth 100000 in
theorem c_rbk_111 (A B : Nat) (_hA : A < 18446744073709551616) (_hB : B < 18446744073709551616) {V e : Int} (h0 : (((B % 4294967296 : Nat) : Int) == 0) = false) (k : SpecD S 32 [.str n_rem_s, .int .u64 ((A % 4294967296 : Nat) : Int), .int .u64 ((B % 4294967296 : Nat) : Int), .int .i64 32] [] (.tup [.int .u64 V, .int .i64 e]) []) : SpecD S 15 [.int .i64 111, .int .u64 (A : Int), .int .u64 (B : Int)] [] (.tup [.int .u64 V, .int .i64 e]) [] := by
  have c := c_refName 111
  rw [r_111] at c
  refine specE ok sh15 rfl ?_
  conv => whnf
  refine call_of [] (c_bits_111) (by rfl) (by rfl) ?_
  conv => whnf
  refine call_of [] (c_rcN32 A) (by rfl) (by rfl) ?_
  conv => whnf
  refine call_of [] (c_rcN32 B) (by rfl) (by rfl) ?_
  conv => whnf
  refine call_of [] (c) (by rfl) (by rfl) ?_
  conv => whnf
  refine call_of [] (c_test_111) (by rfl) (by rfl) ?_
  conv => whnf
  simp only [h0]
  conv => whnf
  refine call_of [] (k) (by rfl) (by rfl) ?_
  conv => whnf
  exact end_of [] (by rfl) (by rfl) (by rfl) (by exact ⟨rfl, rfl⟩)

theorem c_bl_111 (A B : Nat) (hA : A < 18446744073709551616) (hB : B < 18446744073709551616) : SpecD S 4 [.int .i64 111, .int .u64 (A : Int), .int .u64 (B : Int)] [] (.bool true) [] := by
  have hA1 : A % 4294967296 < 4294967296 := Nat.mod_lt _ (by decide)
  have hB1 : B % 4294967296 < 4294967296 := Nat.mod_lt _ (by decide)
  cases h0 : (((B % 4294967296 : Nat) : Int) == 0)
  rotate_left
  · exact c_bl (c_rar_rem_s 111 r_111) (c_bin_rem_s_32_z (A : Int) (B : Int) (by rw [e32]; exact h0)) (c_rbz_111 A B hA hB h0)
  obtain ⟨r1, r2⟩ := c_rdv_rem_s_32 (A % 4294967296) (B % 4294967296) hA1 hB1 h0
  have hne := sgne32 hB1 h0
  cases h1 : ((IntKind.i64.wrap (IntKind.i32.wrap ((B % 4294967296 : Nat) : Int))) == -1)
  · have k := c_bin_rem_s_32_k (A : Int) (B : Int) (by rw [e32]; exact h0) (by rw [e32]; unfold bne; rw [h1]; rfl) (by rw [e32]; exact hne)
    rw [e32 A, e32 B] at k
    exact c_bl (c_rar_rem_s 111 r_111) k (c_rbk_111 A B hA hB h0 (r2 (by rw [h1, Bool.and_false])))
  · have k := c_bin_rem_s_32_m (A : Int) (B : Int) (by rw [e32]; exact h0) (by rw [e32]; unfold bne; rw [h1]; rfl)
    cases h2 : (((A % 4294967296 : Nat) : Int) == 2147483648)
    · have r2' := r2 (by rw [h2, Bool.false_and])
      rw [tmod_neg1 h1] at r2'
      exact c_bl (c_rar_rem_s 111 r_111) k (c_rbk_111 A B hA hB h0 r2')
    · exact c_bl (c_rar_rem_s 111 r_111) k (c_rbk_111 A B hA hB h0 (r1 (by rw [h2, h1]; rfl)))

set_option maxRecDepth 100000 in
theorem c_rbz_112 (A B : Nat) (_hA : A < 18446744073709551616) (_hB : B < 18446744073709551616) (h0 : (((B % 4294967296 : Nat) : Int) == 0) = true) : SpecD S 15 [.int .i64 112, .int .u64 (A : Int), .int .u64 (B : Int)] [] (.tup [.int .u64 0, .int .i64 30]) [] := by
  have c := c_refName 112
  rw [r_112] at c
  refine specE ok sh15 rfl ?_
  conv => whnf
  refine call_of [] (c_bits_112) (by rfl) (by rfl) ?_
  conv => whnf
  refine call_of [] (c_rcN32 A) (by rfl) (by rfl) ?_
  conv => whnf
  refine call_of [] (c_rcN32 B) (by rfl) (by rfl) ?_
  conv => whnf
  refine call_of [] (c) (by rfl) (by rfl) ?_
  conv => whnf
  refine call_of [] (c_test_112) (by rfl) (by rfl) ?_
  conv => whnf
  simp only [h0]
  conv => whnf
  exact end_of [] (by rfl) (by rfl) (by rfl) (by exact ⟨rfl, rfl⟩)

set_option maxRecDepth 100000 in
theorem c_rbk_112 (A B : Nat) (_hA : A < 18446744073709551616) (_hB : B < 18446744073709551616) {V e : Int} (h0 : (((B % 4294967296 : Nat) : Int) == 0) = false) (k : SpecD S 32 [.str n_rem_u, .int .u64 ((A % 4294967296 : Nat) : Int), .int .u64 ((B % 4294967296 : Nat) : Int), .int .i64 32] [] (.tup [.int .u64 V, .int .i64 e]) []) : SpecD S 15 [.int .i64 112, .int .u64 (A : Int), .int .u64 (B : Int)] [] (.tup [.int .u64 V, .int .i64 e]) [] := by
  have c := c_refName 112
  rw [r_112] at c
  refine specE ok sh15 rfl ?_
  conv => whnf
  refine call_of [] (c_bits_112) (by rfl) (by rfl) ?_
  conv => whnf
  refine call_of [] (c_rcN32 A) (by rfl) (by rfl) ?_
  conv => whnf
  refine call_of [] (c_rcN32 B) (by rfl) (by rfl) ?_
  conv => whnf
  refine call_of [] (c) (by rfl) (by rfl) ?_
  conv => whnf
  refine call_of [] (c_test_112) (by rfl) (by rfl) ?_
  conv => whnf
  simp only [h0]
  conv => whnf
  refine call_of [] (k) (by rfl) (by rfl) ?_
  conv => whnf
  exact end_of [] (by rfl) (by rfl) (by rfl) (by exact ⟨rfl, rfl⟩)

theorem c_bl_112 (A B : Nat) (hA : A < 18446744073709551616) (hB : B < 18446744073709551616) : SpecD S 4 [.int .i64 112, .int .u64 (A : Int), .int .u64 (B : Int)] [] (.bool true) [] := by
  have hA1 : A % 4294967296 < 4294967296 := Nat.mod_lt _ (by decide)
  have hB1 : B % 4294967296 < 4294967296 := Nat.mod_lt _ (by decide)
  cases h0 : (((B % 4294967296 : Nat) : Int) == 0)
  rotate_left
  · exact c_bl (c_rar_rem_u 112 r_112) (c_bin_rem_u_32_z (A : Int) (B : Int) (by rw [e32]; exact h0)) (c_rbz_112 A B hA hB h0)
  have k := c_bin_rem_u_32_k (A : Int) (B : Int) (by rw [e32]; exact h0)
  rw [e32 A, e32 B, (show Int.tmod ((A % 4294967296 : Nat) : Int) ((B % 4294967296 : Nat) : Int) = (((A % 4294967296) % (B % 4294967296) : Nat) : Int) from rfl), e32' (Nat.lt_of_le_of_lt (Nat.mod_le _ _) hA1)] at k
  exact c_bl (c_rar_rem_u 112 r_112) k (c_rbk_112 A B hA hB h0 (c_rdv_rem_u_32 (A % 4294967296) (B % 4294967296) hA1 hB1 h0))

set_option maxRecDepth 100000 in
theorem c_rbz_127 (A B : Nat) (_hA : A < 18446744073709551616) (_hB : B < 18446744073709551616) (h0 : ((B : Int) == 0) = true) : SpecD S 15 [.int .i64 127, .int .u64 (A : Int), .int .u64 (B : Int)] [] (.tup [.int .u64 0, .int .i64 30]) [] := by
  have c := c_refName 127
  rw [r_127] at c
  refine specE ok sh15 rfl ?_
  conv => whnf
  refine call_of [] (c_bits_127) (by rfl) (by rfl) ?_
  conv => whnf
  refine call_of [] (c_rcN64 A) (by rfl) (by rfl) ?_
  conv => whnf
  refine call_of [] (c_rcN64 B) (by rfl) (by rfl) ?_
  conv => whnf
  refine call_of [] (c) (by rfl) (by rfl) ?_
  conv => whnf
  refine call_of [] (c_test_127) (by rfl) (by rfl) ?_
  conv => whnf
  simp only [h0]
  conv => whnf
  exact end_of [] (by rfl) (by rfl) (by rfl) (by exact ⟨rfl, rfl⟩)

set_option maxRecDepth 100000 in
theorem c_rbk_127 (A B : Nat) (_hA : A < 18446744073709551616) (_hB : B < 18446744073709551616) {V e : Int} (h0 : ((B : Int) == 0) = false) (k : SpecD S 32 [.str n_div_s, .int .u64 (A : Int), .int .u64 (B : Int), .int .i64 64] [] (.tup [.int .u64 V, .int .i64 e]) []) : SpecD S 15 [.int .i64 127, .int .u64 (A : Int), .int .u64 (B : Int)] [] (.tup [.int .u64 V, .int .i64 e]) [] := by
  have c := c_refName 127
  rw [r_127] at c
  refine specE ok sh15 rfl ?_
  conv => whnf
  refine call_of [] (c_bits_127) (by rfl) (by rfl) ?_
  conv => whnf
  refine call_of [] (c_rcN64 A) (by rfl) (by rfl) ?_
  conv => whnf
  refine call_of [] (c_rcN64 B) (by rfl) (by rfl) ?_
  conv => whnf
  refine call_of [] (c) (by rfl) (by rfl) ?_
  conv => whnf
  refine call_of [] (c_test_127) (by rfl) (by rfl) ?_
  conv => whnf
  simp only [h0]
  conv => whnf
  refine call_of [] (k) (by rfl) (by rfl) ?_
  conv => whnf
  exact end_of [] (by rfl) (by rfl) (by rfl) (by exact ⟨rfl, rfl⟩)

theorem c_bl_127 (A B : Nat) (hA : A < 18446744073709551616) (hB : B < 18446744073709551616) : SpecD S 4 [.int .i64 127, .int .u64 (A : Int), .int .u64 (B : Int)] [] (.bool true) [] := by
  have hA1 := hA
  have hB1 := hB
  cases h0 : ((B : Int) == 0)
  rotate_left
  · exact c_bl (c_rar_div_s 127 r_127) (c_bin_div_s_64_z (A : Int) (B : Int) h0) (c_rbz_127 A B hA hB h0)
  obtain ⟨r1, r2⟩ := c_rdv_div_s_64 A B hA1 hB1 h0
  have hne := sgne64 hB1 h0
  cases h1 : ((IntKind.i64.wrap (B : Int)) == -1)
  · have k := c_bin_div_s_64_k1 (A : Int) (B : Int) h0 h1 hne
    exact c_bl (c_rar_div_s 127 r_127) k (c_rbk_127 A B hA hB h0 (r2 (by rw [h1, Bool.and_false])))
  · cases h2 : ((A : Int) == 9223372036854775808)
    · have k := c_bin_div_s_64_k2 (A : Int) (B : Int) h0 h1 (by rw [minrel64 hA1]; exact h2) hne
      exact c_bl (c_rar_div_s 127 r_127) k (c_rbk_127 A B hA hB h0 (r2 (by rw [h2, Bool.false_and])))
    · have k := c_bin_div_s_64_o (A : Int) (B : Int) h0 h1 (by rw [minrel64 hA1]; exact h2)
      exact c_bl (c_rar_div_s 127 r_127) k (c_rbk_127 A B hA hB h0 (r1 (by rw [h2, h1]; rfl)))

set_option maxRecDepth 100000 in
theorem c_rbz_128 (A B : Nat) (_hA : A < 18446744073709551616) (_hB : B < 18446744073709551616) (h0 : ((B : Int) == 0) = true) : SpecD S 15 [.int .i64 128, .int .u64 (A : Int), .int .u64 (B : Int)] [] (.tup [.int .u64 0, .int .i64 30]) [] := by
  have c := c_refName 128
  rw [r_128] at c
  refine specE ok sh15 rfl ?_
  conv => whnf
  refine call_of [] (c_bits_128) (by rfl) (by rfl) ?_
  conv => whnf
  refine call_of [] (c_rcN64 A) (by rfl) (by rfl) ?_
  conv => whnf
  refine call_of [] (c_rcN64 B) (by rfl) (by rfl) ?_
  conv => whnf
  refine call_of [] (c) (by rfl) (by rfl) ?_
  conv => whnf
  refine call_of [] (c_test_128) (by rfl) (by rfl) ?_
  conv => whnf
  simp only [h0]
  conv => whnf
  exact end_of [] (by rfl) (by rfl) (by rfl) (by exact ⟨rfl, rfl⟩)

set_option maxRecDepth 100000 in
theorem c_rbk_128 (A B : Nat) (_hA : A < 18446744073709551616) (_hB : B < 18446744073709551616) {V e : Int} (h0 : ((B : Int) == 0) = false) (k : SpecD S 32 [.str n_div_u, .int .u64 (A : Int), .int .u64 (B : Int), .int .i64 64] [] (.tup [.int .u64 V, .int .i64 e]) []) : SpecD S 15 [.int .i64 128, .int .u64 (A : Int), .int .u64 (B : Int)] [] (.tup [.int .u64 V, .int .i64 e]) [] := by
  have c := c_refName 128
  rw [r_128] at c
  refine specE ok sh15 rfl ?_
  conv => whnf
  refine call_of [] (c_bits_128) (by rfl) (by rfl) ?_
  conv => whnf
  refine call_of [] (c_rcN64 A) (by rfl) (by rfl) ?_
  conv => whnf
  refine call_of [] (c_rcN64 B) (by rfl) (by rfl) ?_
  conv => whnf
  refine call_of [] (c) (by rfl) (by rfl) ?_
  conv => whnf
  refine call_of [] (c_test_128) (by rfl) (by rfl) ?_
  conv => whnf
  simp only [h0]
  conv => whnf
  refine call_of [] (k) (by rfl) (by rfl) ?_
  conv => whnf
  exact end_of [] (by rfl) (by rfl) (by rfl) (by exact ⟨rfl, rfl⟩)

theorem c_bl_128 (A B : Nat) (hA : A < 18446744073709551616) (hB : B < 18446744073709551616) : SpecD S 4 [.int .i64 128, .int .u64 (A : Int), .int .u64 (B : Int)] [] (.bool true) [] := by
  have hA1 := hA
  have hB1 := hB
  cases h0 : ((B : Int) == 0)
  rotate_left
  · exact c_bl (c_rar_div_u 128 r_128) (c_bin_div_u_64_z (A : Int) (B : Int) h0) (c_rbz_128 A B hA hB h0)
  have k := c_bin_div_u_64_k (A : Int) (B : Int) h0
  rw [(show IntKind.u64.wrap (Int.tdiv (A : Int) (B : Int)) = ((A / B : Nat) : Int) from u64_nat' (Nat.lt_of_le_of_lt (Nat.div_le_self _ _) (by omega)))] at k
  exact c_bl (c_rar_div_u 128 r_128) k (c_rbk_128 A B hA hB h0 (c_rdv_div_u_64 A B hA1 hB1 h0))

set_option maxRecDepth 100000 in
theorem c_rbz_129 (A B : Nat) (_hA : A < 18446744073709551616) (_hB : B < 18446744073709551616) (h0 : ((B : Int) == 0) = true) : SpecD S 15 [.int .i64 129, .int .u64 (A : Int), .int .u64 (B : Int)] [] (.tup [.int .u64 0, .int .i64 30]) [] := by
  have c := c_refName 129
  rw [r_129] at c
  refine specE ok sh15 rfl ?_
  conv => whnf
  refine call_of [] (c_bits_129) (by rfl) (by rfl) ?_
  conv => whnf
  refine call_of [] (c_rcN64 A) (by rfl) (by rfl) ?_
  conv => whnf
  refine call_of [] (c_rcN64 B) (by rfl) (by rfl) ?_
  conv => whnf
  refine call_of [] (c) (by rfl) (by rfl) ?_
  conv => whnf
  refine call_of [] (c_test_129) (by rfl) (by rfl) ?_
  conv => whnf
  simp only [h0]
  conv => whnf
  exact end_of [] (by rfl) (by rfl) (by rfl) (by exact ⟨rfl, rfl⟩)

set_option maxRecDepth 100000 in
theorem c_rbk_129 (A B : Nat) (_hA : A < 18446744073709551616) (_hB : B < 18446744073709551616) {V e : Int} (h0 : ((B : Int) == 0) = false) (k : SpecD S 32 [.str n_rem_s, .int .u64 (A : Int), .int .u64 (B : Int), .int .i64 64] [] (.tup [.int .u64 V, .int .i64 e]) []) : SpecD S 15 [.int .i64 129, .int .u64 (A : Int), .int .u64 (B : Int)] [] (.tup [.int .u64 V, .int .i64 e]) [] := by
  have c := c_refName 129
  rw [r_129] at c
  refine specE ok sh15 rfl ?_
  conv => whnf
  refine call_of [] (c_bits_129) (by rfl) (by rfl) ?_
  conv => whnf
  refine call_of [] (c_rcN64 A) (by rfl) (by rfl) ?_
  conv => whnf
  refine call_of [] (c_rcN64 B) (by rfl) (by rfl) ?_
  conv => whnf
  refine call_of [] (c) (by rfl) (by rfl) ?_
  conv => whnf
  refine call_of [] (c_test_129) (by rfl) (by rfl) ?_
  conv => whnf
  simp only [h0]
  conv => whnf
  refine call_of [] (k) (by rfl) (by rfl) ?_
  conv => whnf
  exact end_of [] (by rfl) (by rfl) (by rfl) (by exact ⟨rfl, rfl⟩)

theorem c_bl_129 (A B : Nat) (hA : A < 18446744073709551616) (hB : B < 18446744073709551616) : SpecD S 4 [.int .i64 129, .int .u64 (A : Int), .int .u64 (B : Int)] [] (.bool true) [] := by
  have hA1 := hA
  have hB1 := hB
  cases h0 : ((B : Int) == 0)
  rotate_left
  · exact c_bl (c_rar_rem_s 129 r_129) (c_bin_rem_s_64_z (A : Int) (B : Int) h0) (c_rbz_129 A B hA hB h0)
  obtain ⟨r1, r2⟩ := c_rdv_rem_s_64 A B hA1 hB1 h0
  have hne := sgne64 hB1 h0
  cases h1 : ((IntKind.i64.wrap (B : Int)) == -1)
  · have k := c_bin_rem_s_64_k (A : Int) (B : Int) h0 (by unfold bne; rw [h1]; rfl) hne
    exact c_bl (c_rar_rem_s 129 r_129) k (c_rbk_129 A B hA hB h0 (r2 (by rw [h1, Bool.and_false])))
  · have k := c_bin_rem_s_64_m (A : Int) (B : Int) h0 (by unfold bne; rw [h1]; rfl)
    cases h2 : ((A : Int) == 9223372036854775808)
    · have r2' := r2 (by rw [h2, Bool.false_and])
      rw [tmod_neg1 h1] at r2'
      exact c_bl (c_rar_rem_s 129 r_129) k (c_rbk_129 A B hA hB h0 r2')
    · exact c_bl (c_rar_rem_s 129 r_129) k (c_rbk_129 A B hA hB h0 (r1 (by rw [h2, h1]; rfl)))

set_option maxRecDepth 100000 in
theorem c_rbz_130 (A B : Nat) (_hA : A < 18446744073709551616) (_hB : B < 18446744073709551616) (h0 : ((B : Int) == 0) = true) : SpecD S 15 [.int .i64 130, .int .u64 (A : Int), .int .u64 (B : Int)] [] (.tup [.int .u64 0, .int .i64 30]) [] := by
  have c := c_refName 130
  rw [r_130] at c
  refine specE ok sh15 rfl ?_
  conv => whnf
  refine call_of [] (c_bits_130) (by rfl) (by rfl) ?_
  conv => whnf
  refine call_of [] (c_rcN64 A) (by rfl) (by rfl) ?_
  conv => whnf
  refine call_of [] (c_rcN64 B) (by rfl) (by rfl) ?_
  conv => whnf
  refine call_of [] (c) (by rfl) (by rfl) ?_
  conv => whnf
  refine call_of [] (c_test_130) (by rfl) (by rfl) ?_
  conv => whnf
  simp only [h0]
  conv => whnf
  exact end_of [] (by rfl) (by rfl) (by rfl) (by exact ⟨rfl, rfl⟩)

set_option maxRecDepth 100000 in
theorem c_rbk_130 (A B : Nat) (_hA : A < 18446744073709551616) (_hB : B < 18446744073709551616) {V e : Int} (h0 : ((B : Int) == 0) = false) (k : SpecD S 32 [.str n_rem_u, .int .u64 (A : Int), .int .u64 (B : Int), .int .i64 64] [] (.tup [.int .u64 V, .int .i64 e]) []) : SpecD S 15 [.int .i64 130, .int .u64 (A : Int), .int .u64 (B : Int)] [] (.tup [.int .u64 V, .int .i64 e]) [] := by
  have c := c_refName 130
  rw [r_130] at c
  refine specE ok sh15 rfl ?_
  conv => whnf
  refine call_of [] (c_bits_130) (by rfl) (by rfl) ?_
  conv => whnf
  refine call_of [] (c_rcN64 A) (by rfl) (by rfl) ?_
  conv => whnf
  refine call_of [] (c_rcN64 B) (by rfl) (by rfl) ?_
  conv => whnf
  refine call_of [] (c) (by rfl) (by rfl) ?_
  conv => whnf
  refine call_of [] (c_test_130) (by rfl) (by rfl) ?_
  conv => whnf
  simp only [h0]
  conv => whnf
  refine call_of [] (k) (by rfl) (by rfl) ?_
  conv => whnf
  exact end_of [] (by rfl) (by rfl) (by rfl) (by exact ⟨rfl, rfl⟩)

theorem c_bl_130 (A B : Nat) (hA : A < 18446744073709551616) (hB : B < 18446744073709551616) : SpecD S 4 [.int .i64 130, .int .u64 (A : Int), .int .u64 (B : Int)] [] (.bool true) [] := by
  have hA1 := hA
  have hB1 := hB
  cases h0 : ((B : Int) == 0)
  rotate_left
  · exact c_bl (c_rar_rem_u 130 r_130) (c_bin_rem_u_64_z (A : Int) (B : Int) h0) (c_rbz_130 A B hA hB h0)
  have k := c_bin_rem_u_64_k (A : Int) (B : Int) h0
  rw [(show Int.tmod (A : Int) (B : Int) = ((A % B : Nat) : Int) from rfl)] at k
  exact c_bl (c_rar_rem_u 130 r_130) k (c_rbk_130 A B hA hB h0 (c_rdv_rem_u_64 A B hA1 hB1 h0))

theorem c_binary (op : Int) (A B : Nat) (hA : A < 18446744073709551616) (hB : B < 18446744073709551616) : SpecD S 4 [.int .i64 op, .int .u64 (A : Int), .int .u64 (B : Int)] [] (.bool true) [] := by
  rcases op_cases op with h | h
  · obtain ⟨w, c⟩ := c_fd_none h
    exact c_bl0 (c_rar_ op h) (c_bno0 c c_ar_ A B)
  · simp only [List.mem_cons, List.not_mem_nil, or_false] at h
    rcases h with rfl | rfl | rfl | rfl | rfl | rfl | rfl | rfl | rfl | rfl | rfl | rfl | rfl | rfl | rfl | rfl | rfl | rfl | rfl | rfl | rfl | rfl | rfl | rfl | rfl | rfl | rfl | rfl | rfl | rfl | rfl | rfl | rfl | rfl | rfl | rfl | rfl | rfl | rfl | rfl | rfl | rfl | rfl | rfl | rfl | rfl | rfl | rfl | rfl | rfl | rfl | rfl | rfl | rfl | rfl | rfl | rfl | rfl | rfl | rfl | rfl | rfl | rfl | rfl | rfl | rfl
    · exact c_bl1 (c_rar_eqz 69 r_69) (c_bno1 f_69 c_ar_eqz A B)
    · exact c_bl (c_rar_eq 70 r_70) (c_bp_70 A B hA hB) (c_rb_70 A B hA hB)
    · exact c_bl (c_rar_ne 71 r_71) (c_bp_71 A B hA hB) (c_rb_71 A B hA hB)
    · exact c_bl (c_rar_lt_s 72 r_72) (c_bp_72 A B hA hB) (c_rb_72 A B hA hB)
    · exact c_bl (c_rar_lt_u 73 r_73) (c_bp_73 A B hA hB) (c_rb_73 A B hA hB)
    · exact c_bl (c_rar_gt_s 74 r_74) (c_bp_74 A B hA hB) (c_rb_74 A B hA hB)
    · exact c_bl (c_rar_gt_u 75 r_75) (c_bp_75 A B hA hB) (c_rb_75 A B hA hB)
    · exact c_bl (c_rar_le_s 76 r_76) (c_bp_76 A B hA hB) (c_rb_76 A B hA hB)
    · exact c_bl (c_rar_le_u 77 r_77) (c_bp_77 A B hA hB) (c_rb_77 A B hA hB)
    · exact c_bl (c_rar_ge_s 78 r_78) (c_bp_78 A B hA hB) (c_rb_78 A B hA hB)
    · exact c_bl (c_rar_ge_u 79 r_79) (c_bp_79 A B hA hB) (c_rb_79 A B hA hB)
    · exact c_bl1 (c_rar_eqz 80 r_80) (c_bno1 f_80 c_ar_eqz A B)
    · exact c_bl (c_rar_eq 81 r_81) (c_bp_81 A B hA hB) (c_rb_81 A B hA hB)
    · exact c_bl (c_rar_ne 82 r_82) (c_bp_82 A B hA hB) (c_rb_82 A B hA hB)
    · exact c_bl (c_rar_lt_s 83 r_83) (c_bp_83 A B hA hB) (c_rb_83 A B hA hB)
    · exact c_bl (c_rar_lt_u 84 r_84) (c_bp_84 A B hA hB) (c_rb_84 A B hA hB)
    · exact c_bl (c_rar_gt_s 85 r_85) (c_bp_85 A B hA hB) (c_rb_85 A B hA hB)
    · exact c_bl (c_rar_gt_u 86 r_86) (c_bp_86 A B hA hB) (c_rb_86 A B hA hB)
    · exact c_bl (c_rar_le_s 87 r_87) (c_bp_87 A B hA hB) (c_rb_87 A B hA hB)
    · exact c_bl (c_rar_le_u 88 r_88) (c_bp_88 A B hA hB) (c_rb_88 A B hA hB)
    · exact c_bl (c_rar_ge_s 89 r_89) (c_bp_89 A B hA hB) (c_rb_89 A B hA hB)
    · exact c_bl (c_rar_ge_u 90 r_90) (c_bp_90 A B hA hB) (c_rb_90 A B hA hB)
    · exact c_bl1 (c_rar_clz 103 r_103) (c_bno1 f_103 c_ar_clz A B)
    · exact c_bl1 (c_rar_ctz 104 r_104) (c_bno1 f_104 c_ar_ctz A B)
    · exact c_bl1 (c_rar_popcnt 105 r_105) (c_bno1 f_105 c_ar_popcnt A B)
    · exact c_bl (c_rar_add 106 r_106) (c_bp_106 A B hA hB) (c_rb_106 A B hA hB)
    · exact c_bl (c_rar_sub 107 r_107) (c_bp_107 A B hA hB) (c_rb_107 A B hA hB)
    · exact c_bl (c_rar_mul 108 r_108) (c_bp_108 A B hA hB) (c_rb_108 A B hA hB)
    · exact c_bl_109 A B hA hB
    · exact c_bl_110 A B hA hB
    · exact c_bl_111 A B hA hB
    · exact c_bl_112 A B hA hB
    · exact c_bl (c_rar_and 113 r_113) (c_bp_113 A B hA hB) (c_rb_113 A B hA hB)
    · exact c_bl (c_rar_or 114 r_114) (c_bp_114 A B hA hB) (c_rb_114 A B hA hB)
    · exact c_bl (c_rar_xor 115 r_115) (c_bp_115 A B hA hB) (c_rb_115 A B hA hB)
    · exact c_bl (c_rar_shl 116 r_116) (c_bp_116 A B hA hB) (c_rb_116 A B hA hB)
    · exact c_bl (c_rar_shr_s 117 r_117) (c_bp_117 A B hA hB) (c_rb_117 A B hA hB)
    · exact c_bl (c_rar_shr_u 118 r_118) (c_bp_118 A B hA hB) (c_rb_118 A B hA hB)
    · exact c_bl (c_rar_rotl 119 r_119) (c_bp_119 A B hA hB) (c_rb_119 A B hA hB)
    · exact c_bl (c_rar_rotr 120 r_120) (c_bp_120 A B hA hB) (c_rb_120 A B hA hB)
    · exact c_bl1 (c_rar_clz 121 r_121) (c_bno1 f_121 c_ar_clz A B)
    · exact c_bl1 (c_rar_ctz 122 r_122) (c_bno1 f_122 c_ar_ctz A B)
    · exact c_bl1 (c_rar_popcnt 123 r_123) (c_bno1 f_123 c_ar_popcnt A B)
    · exact c_bl (c_rar_add 124 r_124) (c_bp_124 A B hA hB) (c_rb_124 A B hA hB)
    · exact c_bl (c_rar_sub 125 r_125) (c_bp_125 A B hA hB) (c_rb_125 A B hA hB)
    · exact c_bl (c_rar_mul 126 r_126) (c_bp_126 A B hA hB) (c_rb_126 A B hA hB)
    · exact c_bl_127 A B hA hB
    · exact c_bl_128 A B hA hB
    · exact c_bl_129 A B hA hB
    · exact c_bl_130 A B hA hB
    · exact c_bl (c_rar_and 131 r_131) (c_bp_131 A B hA hB) (c_rb_131 A B hA hB)
    · exact c_bl (c_rar_or 132 r_132) (c_bp_132 A B hA hB) (c_rb_132 A B hA hB)
    · exact c_bl (c_rar_xor 133 r_133) (c_bp_133 A B hA hB) (c_rb_133 A B hA hB)
    · exact c_bl (c_rar_shl 134 r_134) (c_bp_134 A B hA hB) (c_rb_134 A B hA hB)
    · exact c_bl (c_rar_shr_s 135 r_135) (c_bp_135 A B hA hB) (c_rb_135 A B hA hB)
    · exact c_bl (c_rar_shr_u 136 r_136) (c_bp_136 A B hA hB) (c_rb_136 A B hA hB)
    · exact c_bl (c_rar_rotl 137 r_137) (c_bp_137 A B hA hB) (c_rb_137 A B hA hB)
    · exact c_bl (c_rar_rotr 138 r_138) (c_bp_138 A B hA hB) (c_rb_138 A B hA hB)
    · exact c_bl1 (c_rar_wrap_i64 167 r_167) (c_bno1 f_167 c_ar_wrap_i64 A B)
    · exact c_bl1 (c_rar_extend_i32_s 172 r_172) (c_bno1 f_172 c_ar_extend_i32_s A B)
    · exact c_bl1 (c_rar_extend_i32_u 173 r_173) (c_bno1 f_173 c_ar_extend_i32_u A B)
    · exact c_bl1 (c_rar_extend8_s 192 r_192) (c_bno1 f_192 c_ar_extend8_s A B)
    · exact c_bl1 (c_rar_extend16_s 193 r_193) (c_bno1 f_193 c_ar_extend16_s A B)
    · exact c_bl1 (c_rar_extend8_s 194 r_194) (c_bno1 f_194 c_ar_extend8_s A B)
    · exact c_bl1 (c_rar_extend16_s 195 r_195) (c_bno1 f_195 c_ar_extend16_s A B)
    · exact c_bl1 (c_rar_extend32_s 196 r_196) (c_bno1 f_196 c_ar_extend32_s A B)

theorem c_inumBinary (op a b : Int) (ha : 0 ≤ a ∧ a ≤ 18446744073709551615) (hb : 0 ≤ b ∧ b ≤ 18446744073709551615) : SpecD S 4 [.int .i64 op, .int .u64 a, .int .u64 b] [] (.bool true) [] := by
  obtain ⟨A, rfl⟩ := Int.eq_ofNat_of_zero_le ha.1
  obtain ⟨B, rfl⟩ := Int.eq_ofNat_of_zero_le hb.1
  exact c_binary op A B (by omega) (by omega)

end Sh
end Go.Proofs.YtoegodeglgeomaaDoor
