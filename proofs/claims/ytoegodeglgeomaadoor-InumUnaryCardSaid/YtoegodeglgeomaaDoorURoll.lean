/- Words turned round, as the program's operators compute it. -/
import Derived.Test.YtoegodeglgeomaaDoorUExt
import Derived.Test.YtoegodeglgeomaaDoorPop
namespace Go.Proofs.YtoegodeglgeomaaDoor
open Go PopT
namespace Sh

theorem or_disj (x y r : Nat) (hy : y < 2 ^ r) : x * 2 ^ r ||| y = x * 2 ^ r + y := by
  rw [Nat.mul_comm, Nat.two_pow_add_eq_or_of_lt hy]

theorem mul_mod_pow (A r k : Nat) (h : r ≤ k) : A * 2 ^ r % 2 ^ k = (A % 2 ^ (k - r)) * 2 ^ r := by
  rw [show (2 : Nat) ^ k = 2 ^ (k - r) * 2 ^ r by rw [← Nat.pow_add, show k - r + r = k by omega], Nat.mul_mod_mul_right]

theorem shl_nat (A r w : Nat) (h : r ≤ w) (R : Int) (hR : R = r) : (A : Int) * 2 ^ (min R.toNat w) = ((A * 2 ^ r : Nat) : Int) := by
  subst hR
  rw [Int.toNat_natCast, Nat.min_eq_left h]
  simp

theorem shr_nat (A r w : Nat) (h : r ≤ w) (R : Int) (hR : R = r) : (A : Int).fdiv (2 ^ (min R.toNat w)) = ((A / 2 ^ r : Nat) : Int) := by
  subst hR
  rw [Int.toNat_natCast, Nat.min_eq_left h, Int.fdiv_eq_ediv_of_nonneg _ (by exact Int.le_of_lt (Int.pow_pos (by decide)))]
  simp

theorem div_lt_pow (A r k : Nat) (hr : r ≤ k) (hA : A < 2 ^ k) : A / 2 ^ (k - r) < 2 ^ r :=
  Nat.div_lt_of_lt_mul (by rw [← Nat.pow_add, show k - r + r = k by omega]; exact hA)

theorem u64_nat (n : Nat) : IntKind.u64.wrap (n : Int) = ((n % 18446744073709551616 : Nat) : Int) := by rw [IntKind.wrap_u64]; omega
theorem u32_nat (n : Nat) : IntKind.u32.wrap (n : Int) = ((n % 4294967296 : Nat) : Int) := by rw [IntKind.wrap_u32]; omega

theorem or64 (x y r : Nat) (hx : x * 2 ^ r < 18446744073709551616) (hy : y < 2 ^ r) (hr : r ≤ 64) (X Y : Int) (hX : X = ((x * 2 ^ r : Nat) : Int)) (hY : Y = (y : Nat)) :
    IntKind.u64.wrap ((BitVec.ofInt IntKind.u64.bits X ||| BitVec.ofInt IntKind.u64.bits Y).toNat : Int) = ((x * 2 ^ r + y : Nat) : Int) := by
  subst hX; subst hY
  have h : (2 : Nat) ^ r ≤ 2 ^ 64 := Nat.pow_le_pow_right (by decide) hr
  have := bits_or_u64_nat (x * 2 ^ r) y hx (by omega)
  rw [or_disj x y r hy] at this
  exact this

theorem rol64 (A r : Nat) (hA : A < 18446744073709551616) (hr : r < 64) (R : Int) (hR : R = r) :
    IntKind.u64.wrap ((BitVec.ofInt IntKind.u64.bits (IntKind.u64.wrap ((A : Int) * 2 ^ (min R.toNat IntKind.u64.bits))) ||| BitVec.ofInt IntKind.u64.bits ((A : Int).fdiv (2 ^ (min (IntKind.u64.wrap (64 - R)).toNat IntKind.u64.bits)))).toNat : Int)
      = ((rolL 64 A r : Nat) : Int) := by
  have hm : A * 2 ^ r % 18446744073709551616 = (A % 2 ^ (64 - r)) * 2 ^ r := mul_mod_pow A r 64 (by omega)
  have hlt : (A % 2 ^ (64 - r)) * 2 ^ r < 18446744073709551616 := by rw [← hm]; omega
  refine or64 (A % 2 ^ (64 - r)) (A / 2 ^ (64 - r)) r hlt (div_lt_pow A r 64 (by omega) hA) (by omega) _ _ ?_ ?_
  · rw [shl_nat A r IntKind.u64.bits (by show r ≤ 64; omega) R hR, u64_nat, hm]
  · exact shr_nat A (64 - r) IntKind.u64.bits (by show 64 - r ≤ 64; omega) _ (by rw [hR, IntKind.wrap_u64]; omega)

theorem rol32 (A r : Nat) (hA : A < 4294967296) (hr : r < 32) (R : Int) (hR : R = r) :
    IntKind.u64.wrap (IntKind.u32.wrap (IntKind.u64.wrap ((BitVec.ofInt IntKind.u64.bits (IntKind.u64.wrap ((A : Int) * 2 ^ (min R.toNat IntKind.u64.bits))) ||| BitVec.ofInt IntKind.u64.bits ((A : Int).fdiv (2 ^ (min (IntKind.u64.wrap (32 - R)).toNat IntKind.u64.bits)))).toNat : Int)))
      = ((rolL 32 A r : Nat) : Int) := by
  have h2 : (2 : Nat) ^ r ≤ 2 ^ 31 := Nat.pow_le_pow_right (by decide) (by omega)
  have hA2 : A * 2 ^ r ≤ A * 2 ^ 31 := Nat.mul_le_mul_left _ h2
  have hlt : A * 2 ^ r < 18446744073709551616 := by omega
  have hd := div_lt_pow A r 32 (by omega) hA
  rw [or64 A (A / 2 ^ (32 - r)) r hlt hd (by omega) _ _ (by rw [shl_nat A r IntKind.u64.bits (by show r ≤ 64; omega) R hR, u64_nat, Nat.mod_eq_of_lt hlt])
    (shr_nat A (32 - r) IntKind.u64.bits (by show 32 - r ≤ 64; omega) _ (by rw [hR, IntKind.wrap_u64]; omega))]
  have hm : A * 2 ^ r % 4294967296 = (A % 2 ^ (32 - r)) * 2 ^ r := mul_mod_pow A r 32 (by omega)
  have hq : (A * 2 ^ r + A / 2 ^ (32 - r)) % 4294967296 = rolL 32 A r := by
    have hl := @rolL_lt 32 A r (by omega) hA
    have hda := Nat.div_add_mod (A * 2 ^ r) 4294967296
    rw [hm] at hda
    have : A * 2 ^ r + A / 2 ^ (32 - r) = rolL 32 A r + 4294967296 * (A * 2 ^ r / 4294967296) := by unfold rolL; omega
    rw [this, Nat.add_mul_mod_self_left]
    exact Nat.mod_eq_of_lt hl
  rw [u32_nat, u64_nat, hq]
  have hl := @rolL_lt 32 A r (by omega) hA
  rw [Nat.mod_eq_of_lt (by omega)]

end Sh
end Go.Proofs.YtoegodeglgeomaaDoor
