/- Leading and trailing zeros and set bits, by their places. -/
import Derived.Shelf.Small.Bits
import Derived.Shelf.Spec.TrailingZeros
import Derived.Test.YtoegodeglgeomaaDoorPop
namespace Go.Proofs.YtoegodeglgeomaaDoor
open Go PopT
namespace CntT

theorem aux_zero : ∀ f, Lib.bitLenAux f 0 = 0
  | 0 => rfl
  | f + 1 => by simp [Lib.bitLenAux]

theorem aux_at : ∀ (k f x : Nat), 2 ^ k ≤ x → x < 2 ^ (k + 1) → k < f → Lib.bitLenAux f x = k + 1
  | 0, f + 1, x, h1, h2, _ => by
    obtain rfl : x = 1 := by omega
    simp [Lib.bitLenAux, aux_zero]
  | k + 1, f + 1, x, h1, h2, hf => by
    have hp := Nat.two_pow_pos k
    rw [Nat.pow_succ] at h1
    rw [Nat.pow_succ 2 (k + 1)] at h2
    have := aux_at k f (x / 2) (by omega) (by omega) (by omega)
    rw [Lib.bitLenAux, if_neg (by omega), this]; omega

theorem bitLen_at {k x : Nat} (h1 : 2 ^ k ≤ x) (h2 : x < 2 ^ (k + 1)) (hk : k < 64) : Lib.bitLen x = k + 1 := aux_at k 64 x h1 h2 hk
theorem bitLen_zero : Lib.bitLen 0 = 0 := aux_zero 64

theorem ctzF_at : ∀ (n f a : Nat), a % 2 ^ n = 0 → a / 2 ^ n % 2 = 1 → n < f → Lib.ctzFrom f a = n
  | 0, f + 1, a, _, h2, _ => by
    rw [Nat.pow_zero, Nat.div_one] at h2
    rw [Lib.ctzFrom, if_pos h2]
  | n + 1, f + 1, a, h1, h2, hf => by
    rw [Nat.pow_succ, Nat.mul_comm] at h1 h2
    have e1 : a % 2 = 0 := by
      have := Nat.mod_mul_right_mod a 2 (2 ^ n)
      rw [h1] at this; simpa using this.symm
    have e2 : a / 2 % 2 ^ n = 0 := by
      have := Nat.mod_mul_right_div_self a 2 (2 ^ n)
      rw [h1] at this; simpa using this.symm
    rw [← Nat.div_div_eq_div_mul] at h2
    rw [Lib.ctzFrom, if_neg (by omega), ctzF_at n f (a / 2) e2 h2 (by omega)]; omega

theorem ctz_at {w n a : Nat} (h1 : a % 2 ^ n = 0) (h2 : a / 2 ^ n % 2 = 1) (hn : n < w) : Lib.ctz w a = n := by
  have h0 : a ≠ 0 := by rintro rfl; simp at h2
  rw [Lib.ctz, if_neg h0, ctzF_at n w a h1 h2 hn]

theorem popc_step : ∀ (i a : Nat), popc (i + 1) a = popc i a + (if a.testBit i then 1 else 0)
  | 0, a => by
    rw [Nat.testBit_eq_decide_div_mod_eq, Nat.pow_zero, Nat.div_one]
    simp only [popc]
    rcases Nat.mod_two_eq_zero_or_one a with h | h <;> simp [h]
  | i + 1, a => by
    rw [popc, popc_step i (a / 2), popc]
    have : (a / 2).testBit i = a.testBit (i + 1) := by rw [Nat.testBit_succ]
    rw [this]; omega

/-- a number below a power whose next bit is not set -/
theorem lt_next {a k : Nat} (h : a < 2 ^ (k + 1)) (hb : a.testBit k = false) : a < 2 ^ k := by
  rw [Nat.testBit_eq_decide_div_mod_eq] at hb
  have := of_decide_eq_false hb
  rcases Nat.lt_or_ge a (2 ^ k) with h1 | h1
  · exact h1
  · have h2 : a / 2 ^ k = 1 := by
      have hp := Nat.two_pow_pos k
      rw [Nat.pow_succ] at h
      have : a / 2 ^ k < 2 := Nat.div_lt_of_lt_mul (by omega)
      have : 1 ≤ a / 2 ^ k := (Nat.le_div_iff_mul_le hp).2 (by omega)
      omega
    rw [h2] at this; simp at this

theorem ge_of_bit {a k : Nat} (hb : a.testBit k = true) : 2 ^ k ≤ a := Nat.ge_two_pow_of_testBit hb

theorem mod_next {a n : Nat} (h : a % 2 ^ n = 0) (hb : a.testBit n = false) : a % 2 ^ (n + 1) = 0 := by
  rw [Nat.mod_pow_succ, h]
  rw [Nat.testBit_eq_decide_div_mod_eq] at hb
  have := of_decide_eq_false hb
  have : a / 2 ^ n % 2 = 0 := by omega
  rw [this]; simp
end CntT
end Go.Proofs.YtoegodeglgeomaaDoor
