/- MADE BY PROGRAM (tgen.py): turning left and right undo one another, and no bit is lost. -/
import Derived.Test.YtoegodeglgeomaaDoorUOnes
import Derived.Test.YtoegodeglgeomaaDoorURoll
import Derived.Test.YtoegodeglgeomaaDoorUAri
namespace Go.Proofs.YtoegodeglgeomaaDoor
open Go PopT
namespace Sh

set_option maxRecDepth 100000 in
theorem c_bin_rotl_32 (A B : Nat) (hA : A < 18446744073709551616) (hB : B < 18446744073709551616) : SpecD S 13 [.int .i64 119, .int .u64 (A : Int), .int .u64 (B : Int)] [] (.tup [.int .u64 ((rolL 32 (A % 4294967296) (B % 4294967296 % 32) : Nat) : Int), .int .i64 0]) [] := by
  have ha : IntKind.u64.wrap (IntKind.u32.wrap (A : Int)) = ((A % 4294967296 : Nat) : Int) := by rw [u32_nat, u64_nat]; omega
  have hb : IntKind.u64.wrap (IntKind.u32.wrap (B : Int)) = ((B % 4294967296 : Nat) : Int) := by rw [u32_nat, u64_nat]; omega
  have hla : A % 4294967296 < 4294967296 := Nat.mod_lt _ (by decide)
  generalize hga : A % 4294967296 = A1 at ha hla
  generalize hgb : B % 4294967296 = B1 at hb
  have ht : Int.tmod (B1 : Int) 32 = ((B1 % 32 : Nat) : Int) := rfl
  have hlr : B1 % 32 < 32 := Nat.mod_lt _ (by decide)
  refine specE ok sh13 rfl ?_
  conv => whnf
  refine call_of [] (c_fd_rotl_32) (by rfl) (by rfl) ?_
  conv => whnf
  refine call_of [] (c_ar_rotl) (by rfl) (by rfl) ?_
  conv => whnf
  rw [ha, hb]
  refine ⟨by decide, ?_⟩
  conv => whnf
  refine ⟨by rw [ht]; omega, ?_⟩
  conv => whnf
  refine ⟨by rw [IntKind.wrap_u64]; omega, ?_⟩
  conv => whnf
  refine end_of [] (by rfl) (by rfl) (by rfl) ⟨?_, rfl⟩
  have hh := rol32 A1 _ hla hlr (Int.tmod (B1 : Int) 32) ht
  exact congrArg (fun n : Int => (AV.tup [.int .u64 n, .int .i64 0] : V)) hh

set_option maxRecDepth 100000 in
theorem c_bin_rotr_32 (A B : Nat) (hA : A < 18446744073709551616) (hB : B < 18446744073709551616) : SpecD S 13 [.int .i64 120, .int .u64 (A : Int), .int .u64 (B : Int)] [] (.tup [.int .u64 ((rolL 32 (A % 4294967296) ((32 - (B % 4294967296 % 32)) % 32) : Nat) : Int), .int .i64 0]) [] := by
  have ha : IntKind.u64.wrap (IntKind.u32.wrap (A : Int)) = ((A % 4294967296 : Nat) : Int) := by rw [u32_nat, u64_nat]; omega
  have hb : IntKind.u64.wrap (IntKind.u32.wrap (B : Int)) = ((B % 4294967296 : Nat) : Int) := by rw [u32_nat, u64_nat]; omega
  have hla : A % 4294967296 < 4294967296 := Nat.mod_lt _ (by decide)
  generalize hga : A % 4294967296 = A1 at ha hla
  generalize hgb : B % 4294967296 = B1 at hb
  have ht : Int.tmod (B1 : Int) 32 = ((B1 % 32 : Nat) : Int) := rfl
  have hlr : B1 % 32 < 32 := Nat.mod_lt _ (by decide)
  refine specE ok sh13 rfl ?_
  conv => whnf
  refine call_of [] (c_fd_rotr_32) (by rfl) (by rfl) ?_
  conv => whnf
  refine call_of [] (c_ar_rotr) (by rfl) (by rfl) ?_
  conv => whnf
  rw [ha, hb]
  refine ⟨by decide, ?_⟩
  conv => whnf
  have hs : IntKind.u64.wrap (32 - Int.tmod (B1 : Int) 32) = ((32 - B1 % 32 : Nat) : Int) := by rw [ht, IntKind.wrap_u64]; omega
  have ht2 : Int.tmod (IntKind.u64.wrap (32 - Int.tmod (B1 : Int) 32)) 32 = (((32 - B1 % 32) % 32 : Nat) : Int) := by rw [hs]; rfl
  have hlr2 : (32 - B1 % 32) % 32 < 32 := Nat.mod_lt _ (by decide)
  refine ⟨by decide, ?_⟩
  conv => whnf
  refine ⟨by rw [ht2]; omega, ?_⟩
  conv => whnf
  refine ⟨by rw [IntKind.wrap_u64]; omega, ?_⟩
  conv => whnf
  refine end_of [] (by rfl) (by rfl) (by rfl) ⟨?_, rfl⟩
  have hh := rol32 A1 _ hla hlr2 (Int.tmod (IntKind.u64.wrap (32 - Int.tmod (B1 : Int) 32)) 32) ht2
  exact congrArg (fun n : Int => (AV.tup [.int .u64 n, .int .i64 0] : V)) hh

theorem c_fd_popcnt_32 : SpecD S 26 [.int .i64 105] [] (.tup [.str n_popcnt, .bool false]) [] := by
  have := c_find 105
  rw [show findL 105 GS = (n_popcnt, false) by kernel_rfl] at this
  exact this

set_option maxRecDepth 100000 in
theorem c_u32_popcnt (A : Nat) (hA : A < 2 ^ 32) : SpecD S 36 [.str n_popcnt, .int .u32 (A : Int)] [] (.int .u64 (popc 32 A : Nat)) [] := by
  have hl := popc_le 32 A
  refine specE ok sh36 rfl ?_
  conv => whnf
  refine call_of [] (c_ones32 A hA) (by rfl) (by rfl) ?_
  conv => whnf
  rw [show IntKind.u64.wrap ((popc 32 A : Nat) : Int) = ((popc 32 A : Nat) : Int) by rw [u64_nat]; omega]
  exact end_of [] (by rfl) (by rfl) (by rfl) (by exact ⟨rfl, rfl⟩)

set_option maxRecDepth 100000 in
theorem c_un_popcnt_32 (A : Nat) (hA : A < 18446744073709551616) : Un 105 A (popc 32 (A % 4294967296) : Nat) := by
  refine specE ok sh24 rfl ?_
  conv => whnf
  refine call_of [] (c_fd_popcnt_32) (by rfl) (by rfl) ?_
  conv => whnf
  refine call_of [] (c_ar_popcnt) (by rfl) (by rfl) ?_
  conv => whnf
  rw [u32_nat]
  refine call_of [] (c_u32_popcnt (A % 4294967296) (Nat.mod_lt _ (by decide))) (by rfl) (by rfl) ?_
  conv => whnf
  exact end_of [] (by rfl) (by rfl) (by rfl) (by exact ⟨rfl, rfl⟩)

set_option maxRecDepth 100000 in
theorem c_two_32_16 (a b n : Int) (h : SpecD S 13 [.int .i64 119, .int .u64 a, .int .u64 b] [] (.tup [.int .u64 n, .int .i64 0]) []) : SpecD S 16 [.bool false, .int .i64 16, .int .u64 a, .int .u64 b] [] (.tup [.int .u64 n, .int .i64 0]) [] := by
  refine specE ok sh16 rfl ?_
  conv => whnf
  refine call_of [] (h) (by rfl) (by rfl) ?_
  conv => whnf
  exact end_of [] (by rfl) (by rfl) (by rfl) (by exact ⟨rfl, rfl⟩)

set_option maxRecDepth 100000 in
theorem c_two_32_17 (a b n : Int) (h : SpecD S 13 [.int .i64 120, .int .u64 a, .int .u64 b] [] (.tup [.int .u64 n, .int .i64 0]) []) : SpecD S 16 [.bool false, .int .i64 17, .int .u64 a, .int .u64 b] [] (.tup [.int .u64 n, .int .i64 0]) [] := by
  refine specE ok sh16 rfl ?_
  conv => whnf
  refine call_of [] (h) (by rfl) (by rfl) ?_
  conv => whnf
  exact end_of [] (by rfl) (by rfl) (by rfl) (by exact ⟨rfl, rfl⟩)

set_option maxRecDepth 100000 in
theorem c_bin_rotl_64 (A B : Nat) (hA : A < 18446744073709551616) (hB : B < 18446744073709551616) : SpecD S 13 [.int .i64 137, .int .u64 (A : Int), .int .u64 (B : Int)] [] (.tup [.int .u64 ((rolL 64 A (B % 64) : Nat) : Int), .int .i64 0]) [] := by
  have hla := hA
  have hga : A = A := rfl
  have ht : Int.tmod (B : Int) 64 = ((B % 64 : Nat) : Int) := rfl
  have hlr : B % 64 < 64 := Nat.mod_lt _ (by decide)
  refine specE ok sh13 rfl ?_
  conv => whnf
  refine call_of [] (c_fd_rotl_64) (by rfl) (by rfl) ?_
  conv => whnf
  refine call_of [] (c_ar_rotl) (by rfl) (by rfl) ?_
  conv => whnf
  refine ⟨by decide, ?_⟩
  conv => whnf
  refine ⟨by rw [ht]; omega, ?_⟩
  conv => whnf
  refine ⟨by rw [IntKind.wrap_u64]; omega, ?_⟩
  conv => whnf
  refine end_of [] (by rfl) (by rfl) (by rfl) ⟨?_, rfl⟩
  have hh := rol64 A _ hla hlr (Int.tmod (B : Int) 64) ht
  exact congrArg (fun n : Int => (AV.tup [.int .u64 n, .int .i64 0] : V)) hh

set_option maxRecDepth 100000 in
theorem c_bin_rotr_64 (A B : Nat) (hA : A < 18446744073709551616) (hB : B < 18446744073709551616) : SpecD S 13 [.int .i64 138, .int .u64 (A : Int), .int .u64 (B : Int)] [] (.tup [.int .u64 ((rolL 64 A ((64 - (B % 64)) % 64) : Nat) : Int), .int .i64 0]) [] := by
  have hla := hA
  have hga : A = A := rfl
  have ht : Int.tmod (B : Int) 64 = ((B % 64 : Nat) : Int) := rfl
  have hlr : B % 64 < 64 := Nat.mod_lt _ (by decide)
  refine specE ok sh13 rfl ?_
  conv => whnf
  refine call_of [] (c_fd_rotr_64) (by rfl) (by rfl) ?_
  conv => whnf
  refine call_of [] (c_ar_rotr) (by rfl) (by rfl) ?_
  conv => whnf
  refine ⟨by decide, ?_⟩
  conv => whnf
  have hs : IntKind.u64.wrap (64 - Int.tmod (B : Int) 64) = ((64 - B % 64 : Nat) : Int) := by rw [ht, IntKind.wrap_u64]; omega
  have ht2 : Int.tmod (IntKind.u64.wrap (64 - Int.tmod (B : Int) 64)) 64 = (((64 - B % 64) % 64 : Nat) : Int) := by rw [hs]; rfl
  have hlr2 : (64 - B % 64) % 64 < 64 := Nat.mod_lt _ (by decide)
  refine ⟨by decide, ?_⟩
  conv => whnf
  refine ⟨by rw [ht2]; omega, ?_⟩
  conv => whnf
  refine ⟨by rw [IntKind.wrap_u64]; omega, ?_⟩
  conv => whnf
  refine end_of [] (by rfl) (by rfl) (by rfl) ⟨?_, rfl⟩
  have hh := rol64 A _ hla hlr2 (Int.tmod (IntKind.u64.wrap (64 - Int.tmod (B : Int) 64)) 64) ht2
  exact congrArg (fun n : Int => (AV.tup [.int .u64 n, .int .i64 0] : V)) hh

theorem c_fd_popcnt_64 : SpecD S 26 [.int .i64 123] [] (.tup [.str n_popcnt, .bool true]) [] := by
  have := c_find 123
  rw [show findL 123 GS = (n_popcnt, true) by kernel_rfl] at this
  exact this

set_option maxRecDepth 100000 in
theorem c_u64_popcnt (A : Nat) (hA : A < 2 ^ 64) : SpecD S 35 [.str n_popcnt, .int .u64 (A : Int)] [] (.int .u64 (popc 64 A : Nat)) [] := by
  have hl := popc_le 64 A
  refine specE ok sh35 rfl ?_
  conv => whnf
  refine call_of [] (c_ones64 A hA) (by rfl) (by rfl) ?_
  conv => whnf
  rw [show IntKind.u64.wrap ((popc 64 A : Nat) : Int) = ((popc 64 A : Nat) : Int) by rw [u64_nat]; omega]
  exact end_of [] (by rfl) (by rfl) (by rfl) (by exact ⟨rfl, rfl⟩)

set_option maxRecDepth 100000 in
theorem c_un_popcnt_64 (A : Nat) (hA : A < 18446744073709551616) : Un 123 A (popc 64 A : Nat) := by
  refine specE ok sh24 rfl ?_
  conv => whnf
  refine call_of [] (c_fd_popcnt_64) (by rfl) (by rfl) ?_
  conv => whnf
  refine call_of [] (c_ar_popcnt) (by rfl) (by rfl) ?_
  conv => whnf
  refine call_of [] (c_u64_popcnt A hA) (by rfl) (by rfl) ?_
  conv => whnf
  exact end_of [] (by rfl) (by rfl) (by rfl) (by exact ⟨rfl, rfl⟩)

set_option maxRecDepth 100000 in
theorem c_two_64_16 (a b n : Int) (h : SpecD S 13 [.int .i64 137, .int .u64 a, .int .u64 b] [] (.tup [.int .u64 n, .int .i64 0]) []) : SpecD S 16 [.bool true, .int .i64 16, .int .u64 a, .int .u64 b] [] (.tup [.int .u64 n, .int .i64 0]) [] := by
  refine specE ok sh16 rfl ?_
  conv => whnf
  refine call_of [] (h) (by rfl) (by rfl) ?_
  conv => whnf
  exact end_of [] (by rfl) (by rfl) (by rfl) (by exact ⟨rfl, rfl⟩)

set_option maxRecDepth 100000 in
theorem c_two_64_17 (a b n : Int) (h : SpecD S 13 [.int .i64 138, .int .u64 a, .int .u64 b] [] (.tup [.int .u64 n, .int .i64 0]) []) : SpecD S 16 [.bool true, .int .i64 17, .int .u64 a, .int .u64 b] [] (.tup [.int .u64 n, .int .i64 0]) [] := by
  refine specE ok sh16 rfl ?_
  conv => whnf
  refine call_of [] (h) (by rfl) (by rfl) ?_
  conv => whnf
  exact end_of [] (by rfl) (by rfl) (by rfl) (by exact ⟨rfl, rfl⟩)


set_option maxRecDepth 100000 in
theorem c_turns32 (A B : Nat) (hA : A < 18446744073709551616) (hB : B < 18446744073709551616) : SpecD S 9 [.bool false, .int .u64 (A : Int), .int .u64 (B : Int)] [] (.bool true) [] := by
  have hr : B % 4294967296 % 32 < 32 := Nat.mod_lt _ (by decide)
  have hx : A % 4294967296 < 2 ^ 32 := Nat.mod_lt _ (by decide)
  have k1 := @rolL_lt 32 (A % 4294967296) (B % 4294967296 % 32) (by omega) hx
  have k1' : rolL 32 (A % 4294967296) (B % 4294967296 % 32) < 18446744073709551616 := by omega
  have e1 := c_two_32_16 _ _ _ (c_bin_rotl_32 A B hA hB)
  have e2 := c_two_32_17 _ _ _ (c_bin_rotr_32 (rolL 32 (A % 4294967296) (B % 4294967296 % 32)) B k1' hB)
  have hb : rolL 32 (rolL 32 (A % 4294967296) (B % 4294967296 % 32) % 4294967296) ((32 - B % 4294967296 % 32) % 32) = A % 4294967296 := by
    rw [Nat.mod_eq_of_lt (show rolL 32 (A % 4294967296) (B % 4294967296 % 32) < 4294967296 from k1)]
    rcases Nat.eq_zero_or_pos (B % 4294967296 % 32) with h0 | h0
    · rw [h0]
      show rolL 32 (rolL 32 (A % 4294967296) 0) 0 = _
      have hz : ∀ y, y < 2 ^ 32 → rolL 32 y 0 = y := fun y hy => by
        show y % 2 ^ 32 * 2 ^ 0 + y / 2 ^ 32 = y
        rw [Nat.mod_eq_of_lt hy, Nat.div_eq_of_lt hy]; omega
      rw [hz _ hx, hz _ hx]
    · rw [show (32 - B % 4294967296 % 32) % 32 = 32 - B % 4294967296 % 32 by omega]
      exact rol_back (by omega) hx
  rw [hb] at e2
  have e3 := c_un_popcnt_32 A hA
  have e4 := c_un_popcnt_32 (rolL 32 (A % 4294967296) (B % 4294967296 % 32)) k1'
  have hp : popc 32 (rolL 32 (A % 4294967296) (B % 4294967296 % 32) % 4294967296) = popc 32 (A % 4294967296) := by
    rw [Nat.mod_eq_of_lt (show rolL 32 (A % 4294967296) (B % 4294967296 % 32) < 4294967296 from k1)]
    exact popc_rol (by omega) hx
  rw [hp] at e4
  generalize rolL 32 (A % 4294967296) (B % 4294967296 % 32) = L at *
  generalize popc 32 (A % 4294967296) = P at *
  refine specE ok sh9 rfl ?_
  conv => whnf
  refine call_of [] (e1) (by rfl) (by rfl) ?_
  conv => whnf
  refine call_of [] (e2) (by rfl) (by rfl) ?_
  conv => whnf
  refine call_of [] (e3) (by rfl) (by rfl) ?_
  conv => whnf
  refine call_of [] (e4) (by rfl) (by rfl) ?_
  conv => whnf
  have hc : IntKind.u64.wrap (IntKind.u32.wrap (A : Int)) = ((A % 4294967296 : Nat) : Int) := by rw [u32_nat, u64_nat]; omega
  refine call_of [] (c_cut_32 A (by omega)) (by rfl) (by rfl) ?_
  conv => whnf
  try (refine And.intro (by repeat first | exact trivial | refine And.intro (by first | rfl | exact trivial) ?_) ?_; conv => whnf)
  rw [hc]
  cases h1 : (((A % 4294967296 : Nat) : Int) == ((A % 4294967296 : Nat) : Int))
  · simp at h1
  conv => whnf
  cases h2 : ((P : Int) == (P : Int))
  · simp at h2
  conv => whnf
  refine call_of [] (c_awake) (by rfl) (by rfl) ?_
  conv => whnf
  exact end_of [] (by rfl) (by rfl) (by rfl) (by exact ⟨rfl, rfl⟩)

set_option maxRecDepth 100000 in
theorem c_turns64 (A B : Nat) (hA : A < 18446744073709551616) (hB : B < 18446744073709551616) : SpecD S 9 [.bool true, .int .u64 (A : Int), .int .u64 (B : Int)] [] (.bool true) [] := by
  have hr : B % 64 < 64 := Nat.mod_lt _ (by decide)
  have hx : A < 2 ^ 64 := hA
  have k1 := @rolL_lt 64 (A) (B % 64) (by omega) hx
  have k1' : rolL 64 (A) (B % 64) < 18446744073709551616 := by omega
  have e1 := c_two_64_16 _ _ _ (c_bin_rotl_64 A B hA hB)
  have e2 := c_two_64_17 _ _ _ (c_bin_rotr_64 (rolL 64 (A) (B % 64)) B k1' hB)
  have hb : rolL 64 (rolL 64 (A) (B % 64)) ((64 - B % 64) % 64) = A := by
    skip
    rcases Nat.eq_zero_or_pos (B % 64) with h0 | h0
    · rw [h0]
      show rolL 64 (rolL 64 (A) 0) 0 = _
      have hz : ∀ y, y < 2 ^ 64 → rolL 64 y 0 = y := fun y hy => by
        show y % 2 ^ 64 * 2 ^ 0 + y / 2 ^ 64 = y
        rw [Nat.mod_eq_of_lt hy, Nat.div_eq_of_lt hy]; omega
      rw [hz _ hx, hz _ hx]
    · rw [show (64 - B % 64) % 64 = 64 - B % 64 by omega]
      exact rol_back (by omega) hx
  rw [hb] at e2
  have e3 := c_un_popcnt_64 A hA
  have e4 := c_un_popcnt_64 (rolL 64 (A) (B % 64)) k1'
  have hp : popc 64 (rolL 64 (A) (B % 64)) = popc 64 (A) := by
    skip
    exact popc_rol (by omega) hx
  rw [hp] at e4
  generalize rolL 64 (A) (B % 64) = L at *
  generalize popc 64 (A) = P at *
  refine specE ok sh9 rfl ?_
  conv => whnf
  refine call_of [] (e1) (by rfl) (by rfl) ?_
  conv => whnf
  refine call_of [] (e2) (by rfl) (by rfl) ?_
  conv => whnf
  refine call_of [] (e3) (by rfl) (by rfl) ?_
  conv => whnf
  refine call_of [] (e4) (by rfl) (by rfl) ?_
  conv => whnf
  refine call_of [] (c_cut_64 A) (by rfl) (by rfl) ?_
  conv => whnf
  try (refine And.intro (by repeat first | exact trivial | refine And.intro (by first | rfl | exact trivial) ?_) ?_; conv => whnf)
  cases h1 : (((A : Nat) : Int) == ((A : Nat) : Int))
  · simp at h1
  conv => whnf
  cases h2 : ((P : Int) == (P : Int))
  · simp at h2
  conv => whnf
  refine call_of [] (c_awake) (by rfl) (by rfl) ?_
  conv => whnf
  exact end_of [] (by rfl) (by rfl) (by rfl) (by exact ⟨rfl, rfl⟩)

theorem c_turns (w : Bool) (a b : Int) (ha : 0 ≤ a ∧ a ≤ 18446744073709551615) (hb : 0 ≤ b ∧ b ≤ 18446744073709551615) : SpecD S 9 [.bool w, .int .u64 a, .int .u64 b] [] (.bool true) [] := by
  obtain ⟨A, rfl⟩ := Int.eq_ofNat_of_zero_le ha.1
  obtain ⟨B, rfl⟩ := Int.eq_ofNat_of_zero_le hb.1
  cases w
  · exact c_turns32 A B (by omega) (by omega)
  · exact c_turns64 A B (by omega) (by omega)

end Sh
end Go.Proofs.YtoegodeglgeomaaDoor
