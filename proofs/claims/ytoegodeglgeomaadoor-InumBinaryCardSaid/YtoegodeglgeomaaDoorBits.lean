/- What words laid together bit by bit are: shifted, turned. -/
import Derived.Test.YtoegodeglgeomaaDoorRefB
namespace Go.Proofs.YtoegodeglgeomaaDoor
open Go PopT
namespace Sh

theorem bit_hi {A w i : Nat} (hA : A < 2 ^ w) (hi : w ≤ i) : A.testBit i = false :=
  Nat.testBit_lt_two_pow (Nat.lt_of_lt_of_le hA (Nat.pow_le_pow_right (by decide) hi))

theorem acc_shl (A r w : Nat) : acc (fun i => decide (r ≤ i) && A.testBit (i - r)) w = A * 2 ^ r % 2 ^ w := by
  refine acc_is (Nat.mod_lt _ (Nat.two_pow_pos _)) fun i hi => ?_
  rw [Nat.testBit_mod_two_pow, Nat.mul_comm, Nat.testBit_two_pow_mul]
  simp [hi]

theorem acc_shr_u {A w : Nat} (r : Nat) (hA : A < 2 ^ w) : acc (fun i => decide (i + r < w) && A.testBit (i + r)) w = A / 2 ^ r := by
  refine acc_is (Nat.lt_of_le_of_lt (Nat.div_le_self _ _) hA) fun i hi => ?_
  rw [Nat.testBit_div_two_pow]
  cases h : decide (i + r < w)
  · rw [Bool.false_and, bit_hi hA (by have := of_decide_eq_false h; omega)]
  · rw [Bool.true_and]

theorem acc_rotl {A r w : Nat} (hr : r < w) (hA : A < 2 ^ w) : acc (fun i => A.testBit ((i + w - r) % w)) w = rolL w A r := by
  refine acc_is (rolL_lt (by omega) hA) fun i hi => ?_
  have h1 : A / 2 ^ (w - r) < 2 ^ r := div_lt_pow A r w (by omega) hA
  rw [rolL, Nat.mul_comm, Nat.testBit_two_pow_mul_add _ h1]
  split
  · rename_i h
    rw [Nat.testBit_div_two_pow, Nat.mod_eq_of_lt (by omega), show i + w - r = i + (w - r) by omega]
  · rename_i h
    rw [Nat.testBit_mod_two_pow, show i + w - r = (i - r) + w by omega, Nat.add_mod_right, Nat.mod_eq_of_lt (by omega)]
    simp; omega

theorem acc_rotr {A r w : Nat} (hr : r < w) (hA : A < 2 ^ w) : acc (fun i => A.testBit ((i + r) % w)) w = rolL w A ((w - r) % w) := by
  rw [← acc_rotl (Nat.mod_lt _ (by omega)) hA]
  refine acc_congr fun i hi => ?_
  rcases Nat.eq_zero_or_pos r with rfl | h
  · rw [Nat.sub_zero, Nat.mod_self, Nat.sub_zero, Nat.add_zero, Nat.add_mod_right]
  · rw [Nat.mod_eq_of_lt (show w - r < w by omega), show i + w - (w - r) = i + r by omega]

/-- Shifted to the right, its sign kept. -/
def sarN (w A r : Nat) : Nat := if A < 2 ^ (w - 1) then A / 2 ^ r else 2 ^ (w - r) * (2 ^ r - 1) + A / 2 ^ r

theorem acc_shr_s {A r w : Nat} (hr : r < w) (hA : A < 2 ^ w) : acc (fun i => A.testBit (if w ≤ i + r then w - 1 else i + r)) w = sarN w A r := by
  have hd : A / 2 ^ r < 2 ^ (w - r) := Nat.div_lt_of_lt_mul (by rw [← Nat.pow_add, show r + (w - r) = w by omega]; exact hA)
  have hpow : (2 : Nat) ^ w = 2 * 2 ^ (w - 1) := by rw [← Nat.pow_succ', show (w - 1).succ = w by omega]
  have htop : A.testBit (w - 1) = decide (¬ A < 2 ^ (w - 1)) := by
    rw [Nat.testBit_eq_decide_div_mod_eq]
    refine decide_eq_decide.2 ?_
    have h1 : A / 2 ^ (w - 1) < 2 := Nat.div_lt_of_lt_mul (by omega)
    constructor
    · intro h h2
      rw [Nat.div_eq_of_lt h2] at h; simp at h
    · intro h
      have : 1 ≤ A / 2 ^ (w - 1) := (Nat.le_div_iff_mul_le (Nat.two_pow_pos _)).2 (by omega)
      omega
  by_cases hs : A < 2 ^ (w - 1)
  · rw [sarN, if_pos hs]
    refine acc_is (Nat.lt_of_le_of_lt (Nat.div_le_self _ _) hA) fun i hi => ?_
    rw [Nat.testBit_div_two_pow]
    split
    · rw [htop, decide_eq_false (by omega), bit_hi hs (by omega)]
    · rfl
  · rw [sarN, if_neg hs]
    have hlt : 2 ^ (w - r) * (2 ^ r - 1) + A / 2 ^ r < 2 ^ w := by
      have e : (2 : Nat) ^ w = 2 ^ (w - r) * 2 ^ r := by rw [← Nat.pow_add, show w - r + r = w by omega]
      have hp := Nat.two_pow_pos r
      have : 2 ^ (w - r) * 2 ^ r = 2 ^ (w - r) * (2 ^ r - 1) + 2 ^ (w - r) := by
        have : (2 : Nat) ^ r = (2 ^ r - 1) + 1 := by omega
        rw [this, Nat.mul_add, Nat.mul_one]; simp
      omega
    refine acc_is hlt fun i hi => ?_
    rw [Nat.testBit_two_pow_mul_add _ hd]
    split
    · rw [if_neg (by omega), htop, decide_eq_true hs, Nat.testBit_two_pow_sub_one]
      simp; omega
    · rw [if_pos (by omega), Nat.testBit_div_two_pow]

theorem fdiv_pow (n : Int) (r : Nat) : n.fdiv (2 ^ r) = n / 2 ^ r := Int.fdiv_eq_ediv_of_nonneg _ (by exact Int.le_of_lt (Int.pow_pos (by decide)))

theorem sar_parts {A r w : Nat} (hr : r ≤ w) : (((A : Int) - ((2 ^ w : Nat) : Int)).fdiv (2 ^ r)) = ((A / 2 ^ r : Nat) : Int) - ((2 ^ (w - r) : Nat) : Int) ∧ 2 ^ (w - r) * (2 ^ r - 1) + 2 ^ (w - r) = 2 ^ w := by
  have e : (2 : Nat) ^ w = 2 ^ (w - r) * 2 ^ r := by rw [← Nat.pow_add, show w - r + r = w by omega]
  constructor
  · rw [fdiv_pow, e]
    have : ((A : Int) - ((2 ^ (w - r) * 2 ^ r : Nat) : Int)) = (A : Int) + (-((2 ^ (w - r) : Nat) : Int)) * (2 : Int) ^ r := by
      rw [Int.neg_mul, Int.natCast_mul]; simp; omega
    rw [this, Int.add_mul_ediv_right _ _ (by exact Int.ne_of_gt (Int.pow_pos (by decide)))]
    have h2 : ((A / 2 ^ r : Nat) : Int) = (A : Int) / 2 ^ r := by simp
    rw [h2]; omega
  · have hp := Nat.two_pow_pos r
    rw [e]
    have : (2 : Nat) ^ r = (2 ^ r - 1) + 1 := by omega
    rw [this, Nat.mul_add, Nat.mul_one]; simp

theorem sar64 {A r : Nat} (hr : r < 64) (hA : A < 18446744073709551616) : IntKind.u64.wrap ((IntKind.i64.wrap (A : Int)).fdiv (2 ^ r)) = ((sarN 64 A r : Nat) : Int) := by
  have hd : A / 2 ^ r ≤ A := Nat.div_le_self _ _
  unfold sarN
  split
  · rename_i h
    rw [show IntKind.i64.wrap (A : Int) = A by rw [IntKind.wrap_i64]; omega, fdiv_pow, show ((A : Int) / 2 ^ r) = ((A / 2 ^ r : Nat) : Int) by simp, u64_nat, Nat.mod_eq_of_lt (by omega)]
  · rename_i h
    have hx : IntKind.i64.wrap (A : Int) = (A : Int) - ((2 ^ 64 : Nat) : Int) := by rw [IntKind.wrap_i64]; omega
    obtain ⟨h1, h2⟩ := @sar_parts A r 64 (by omega)
    have h3 : A / 2 ^ r < 2 ^ (64 - r) := Nat.div_lt_of_lt_mul (by rw [← Nat.pow_add, show r + (64 - r) = 64 by omega]; exact hA)
    rw [hx, h1, IntKind.wrap_u64]
    generalize 2 ^ (64 - r) * (2 ^ r - 1) = s at *
    generalize 2 ^ (64 - r) = p at *
    generalize A / 2 ^ r = q at *
    omega

theorem sar32 {A r : Nat} (hr : r < 32) (hA : A < 4294967296) : IntKind.u64.wrap (IntKind.u32.wrap (IntKind.u64.wrap ((IntKind.i64.wrap (IntKind.i32.wrap (A : Int))).fdiv (2 ^ r)))) = ((sarN 32 A r : Nat) : Int) := by
  have hd : A / 2 ^ r ≤ A := Nat.div_le_self _ _
  unfold sarN
  split
  · rename_i h
    rw [sg32_lt (by omega) (by omega), fdiv_pow, show ((A : Int) / 2 ^ r) = ((A / 2 ^ r : Nat) : Int) by simp, u64_nat, Nat.mod_eq_of_lt (by omega), u32_nat, Nat.mod_eq_of_lt (by omega), u64_nat, Nat.mod_eq_of_lt (by omega)]
  · rename_i h
    have hx : IntKind.i64.wrap (IntKind.i32.wrap (A : Int)) = (A : Int) - ((2 ^ 32 : Nat) : Int) := by rw [sg32_ge (by omega) (by omega)]; omega
    obtain ⟨h1, h2⟩ := @sar_parts A r 32 (by omega)
    have h3 : A / 2 ^ r < 2 ^ (32 - r) := Nat.div_lt_of_lt_mul (by rw [← Nat.pow_add, show r + (32 - r) = 32 by omega]; exact hA)
    rw [hx, h1, IntKind.wrap_u64, IntKind.wrap_u32, IntKind.wrap_u64]
    generalize 2 ^ (32 - r) * (2 ^ r - 1) = s at *
    generalize 2 ^ (32 - r) = p at *
    generalize A / 2 ^ r = q at *
    omega

end Sh
end Go.Proofs.YtoegodeglgeomaaDoor
