/- What the reference's own functions answer: cut, signed readings, bits, and what it lays together bit by bit. -/
import Derived.Test.YtoegodeglgeomaaDoorUTurn
namespace Go.Proofs.YtoegodeglgeomaaDoor
open Go PopT
namespace Sh

theorem cut32 (e : Int) (h0 : 0 ≤ e) : Int.tmod e 4294967296 = IntKind.u64.wrap (IntKind.u32.wrap e) := by
  rw [Int.tmod_eq_emod_of_nonneg h0, IntKind.wrap_u64, IntKind.wrap_u32]; omega

set_option maxRecDepth 100000 in
theorem c_rcut32 (e : Int) (h0 : 0 ≤ e) : SpecD S 29 [.int .u64 e, .int .i64 32] [] (.int .u64 (IntKind.u64.wrap (IntKind.u32.wrap e))) [] := by
  refine specE ok sh29 rfl ?_
  conv => whnf
  refine ⟨by decide, ?_⟩
  conv => whnf
  refine ⟨by decide, ?_⟩
  conv => whnf
  refine end_of [] (by rfl) (by rfl) (by rfl) ⟨congrArg (AV.int .u64) ?_, rfl⟩
  rw [← cut32 e h0]; rfl

set_option maxRecDepth 100000 in
theorem c_rcut64 (e : Int) : SpecD S 29 [.int .u64 e, .int .i64 64] [] (.int .u64 e) [] := by
  refine specE ok sh29 rfl ?_
  conv => whnf
  exact end_of [] (by rfl) (by rfl) (by rfl) (by exact ⟨rfl, rfl⟩)

set_option maxRecDepth 100000 in
theorem c_rsg64 (e : Int) : SpecD S 38 [.int .u64 e, .int .i64 64] [] (.int .i64 (IntKind.i64.wrap e)) [] := by
  refine specE ok sh38 rfl ?_
  conv => whnf
  refine call_of [] (c_rcut64 e) (by rfl) (by rfl) ?_
  conv => whnf
  exact end_of [] (by rfl) (by rfl) (by rfl) (by exact ⟨rfl, rfl⟩)

theorem wrap_i32b (n : Int) : IntKind.i32.wrap n = (n + 2147483648) % 4294967296 - 2147483648 := by
  simp [IntKind.wrap, IntKind.bits, IntKind.signed]
  split <;> omega
theorem sg32_lt {e : Int} (h0 : 0 ≤ e) (h1 : e < 2147483648) : IntKind.i64.wrap (IntKind.i32.wrap e) = e := by
  rw [IntKind.wrap_i64, wrap_i32b]; omega
theorem sg32_ge {e : Int} (h0 : 2147483648 ≤ e) (h1 : e < 4294967296) : IntKind.i64.wrap (IntKind.i32.wrap e) = e - 4294967296 := by
  rw [IntKind.wrap_i64, wrap_i32b]; omega

set_option maxRecDepth 100000 in
theorem c_rsg32 (e : Int) (h0 : 0 ≤ e) (h1 : e < 4294967296) : SpecD S 38 [.int .u64 e, .int .i64 32] [] (.int .i64 (IntKind.i64.wrap (IntKind.i32.wrap e))) [] := by
  have hc : IntKind.u64.wrap (IntKind.u32.wrap e) = e := by rw [IntKind.wrap_u64, IntKind.wrap_u32]; omega
  have k := c_rcut32 e h0
  rw [hc] at k
  refine specE ok sh38 rfl ?_
  conv => whnf
  refine call_of [] (k) (by rfl) (by rfl) ?_
  conv => whnf
  refine ⟨by decide, ?_⟩
  conv => whnf
  cases h : decide ((2147483648 : Int) ≤ e)
  · rw [show decide (IntKind.u64.wrap (1 * 2 ^ (min (IntKind.u64.wrap (IntKind.i64.wrap (32 - 1))).toNat IntKind.u64.bits)) ≤ e) = false from h]
    conv => whnf
    have := of_decide_eq_false h
    rw [sg32_lt h0 (by omega), show IntKind.i64.wrap e = e by rw [IntKind.wrap_i64]; omega]
    exact end_of [] (by rfl) (by rfl) (by rfl) (by exact ⟨rfl, rfl⟩)
  · rw [show decide (IntKind.u64.wrap (1 * 2 ^ (min (IntKind.u64.wrap (IntKind.i64.wrap (32 - 1))).toNat IntKind.u64.bits)) ≤ e) = true from h]
    conv => whnf
    refine ⟨by decide, ?_⟩
    conv => whnf
    have := of_decide_eq_true h
    rw [sg32_ge this h1]
    refine end_of [] (by rfl) (by rfl) (by rfl) ⟨congrArg (AV.int .i64) ?_, rfl⟩
    show IntKind.i64.wrap (IntKind.i64.wrap e - 4294967296) = _
    rw [IntKind.wrap_i64, IntKind.wrap_i64]; omega

set_option maxRecDepth 100000 in
theorem c_rtruth (p : Bool) : SpecD S 37 [.bool p] [] (.int .u64 (tr p)) [] := by
  cases p
  · refine specE ok sh37 rfl ?_
    conv => whnf
    exact end_of [] (by rfl) (by rfl) (by rfl) (by exact ⟨rfl, rfl⟩)
  · refine specE ok sh37 rfl ?_
    conv => whnf
    exact end_of [] (by rfl) (by rfl) (by rfl) (by exact ⟨rfl, rfl⟩)

set_option maxRecDepth 100000 in
theorem c_rbit (A i : Nat) (hi : i < 64) : SpecD S 45 [.int .u64 (A : Int), .int .i64 (i : Int)] [] (.bool (A.testBit i)) [] := by
  have hw : IntKind.u64.wrap (i : Int) = i := by rw [IntKind.wrap_u64]; omega
  have hs := shr_nat A i IntKind.u64.bits (by show i ≤ 64; omega) (IntKind.u64.wrap (i : Int)) hw
  refine specE ok sh45 rfl ?_
  conv => whnf
  refine ⟨by rw [hw]; omega, ?_⟩
  rw [hs]
  conv => whnf
  refine ⟨by decide, ?_⟩
  conv => whnf
  refine end_of [] (by rfl) (by rfl) (by rfl) ⟨congrArg AV.bool ?_, rfl⟩
  rw [Nat.testBit_eq_decide_div_mod_eq]
  show (((A / 2 ^ i : Nat) : Int).tmod 2 == 1) = _
  rw [show ((A / 2 ^ i : Nat) : Int).tmod 2 = ((A / 2 ^ i % 2 : Nat) : Int) from rfl]
  rcases Nat.mod_two_eq_zero_or_one (A / 2 ^ i) with h | h <;> rw [h] <;> rfl

/-! ### Bit by bit -/
def acc (f : Nat → Bool) : Nat → Nat
  | 0 => 0
  | k + 1 => acc f k + if f k then 2 ^ k else 0

theorem acc_lt (f : Nat → Bool) : ∀ k, acc f k < 2 ^ k
  | 0 => by simp [acc]
  | k + 1 => by
    have := acc_lt f k
    simp only [acc, Nat.pow_succ]
    split <;> omega

theorem acc_mod (x : Nat) : ∀ k, acc x.testBit k = x % 2 ^ k
  | 0 => by simp [acc, Nat.mod_one]
  | k + 1 => by
    rw [acc, acc_mod x k, Nat.mod_pow_succ, Nat.testBit_eq_decide_div_mod_eq]
    rcases Nat.mod_two_eq_zero_or_one (x / 2 ^ k) with h | h <;> simp [h]

theorem acc_congr {f g : Nat → Bool} : ∀ {k : Nat}, (∀ i, i < k → f i = g i) → acc f k = acc g k
  | 0, _ => rfl
  | k + 1, h => by rw [acc, acc, acc_congr fun i hi => h i (by omega), h k (by omega)]

theorem acc_is {f : Nat → Bool} {w x : Nat} (hx : x < 2 ^ w) (h : ∀ i, i < w → f i = x.testBit i) : acc f w = x := by
  rw [acc_congr h, acc_mod, Nat.mod_eq_of_lt hx]

def shV (nm : ByteArray) (A by_ w n i : Int) : List V := [.str nm, .int .u64 A, .int .i64 by_, .int .i64 w, .int .u64 n, .int .i64 i]

/-- One more bit. -/
theorem acc_step (f : Nat → Bool) (i : Nat) (hi : i < 64) : IntKind.u64.wrap ((acc f i : Nat) + IntKind.u64.wrap (1 * 2 ^ (min (IntKind.u64.wrap (i : Int)).toNat IntKind.u64.bits))) = ((acc f i + 2 ^ i : Nat) : Int) := by
  have hw : IntKind.u64.wrap (i : Int) = i := by rw [IntKind.wrap_u64]; omega
  have h1 := shl_nat 1 i IntKind.u64.bits (by show i ≤ 64; omega) _ hw
  have hp : (2 : Nat) ^ i ≤ 2 ^ 63 := Nat.pow_le_pow_right (by decide) (by omega)
  have ha := acc_lt f i
  rw [show ((1 : Nat) : Int) = 1 from rfl] at h1
  rw [h1, Nat.one_mul, u64_nat, Nat.mod_eq_of_lt (by omega), show ((acc f i : Nat) : Int) + ((2 ^ i : Nat) : Int) = ((acc f i + 2 ^ i : Nat) : Int) by simp, u64_nat, Nat.mod_eq_of_lt (by omega)]

set_option maxRecDepth 100000 in
theorem c_shifted_shl (A r w : Nat) (hr : r < w) (hw : w ≤ 64) : SpecD S 33 [.str n_shl, .int .u64 (A : Int), .int .i64 (r : Int), .int .i64 (w : Int)] [] (.int .u64 ((acc (fun i => decide (r ≤ i) && A.testBit (i - r)) w : Nat) : Int)) [] := by
  generalize hff : (fun i => decide (r ≤ i) && A.testBit (i - r)) = f
  refine specE ok sh33 rfl ?_
  conv => whnf
  refine loop_of [] [] (fun vs H => ∃ i : Nat, i ≤ w ∧ vs = shV n_shl A r w (acc f i : Nat) i ∧ H = [])
    (fun vs _ => match vs with | [_, _, _, _, _, .int _ i] => w - i.toNat | _ => 0) (by rfl) (by rfl) (by rfl) (by rfl) ⟨0, Nat.zero_le _, rfl, rfl⟩ ?_
  rintro vs H1 ⟨i, hi, rfl, rfl⟩
  conv => whnf
  cases hd : decide ((i : Int) < w)
  · conv => whnf
    have := of_decide_eq_false hd
    obtain rfl : i = w := by omega
    exact end_of [] (by rfl) (by rfl) (by rfl) (by exact ⟨rfl, rfl⟩)
  · conv => whnf
    have hlt := of_decide_eq_true hd
    have hw1 : IntKind.i64.wrap ((i : Int) + 1) = ((i + 1 : Nat) : Int) := by rw [IntKind.wrap_i64]; omega
    have hm : w - (IntKind.i64.wrap ((i : Int) + 1)).toNat < w - (i : Int).toNat := by rw [hw1]; omega
    have hwf : IntKind.i64.wrap ((i : Int) - r) = (i : Int) - r := by rw [IntKind.wrap_i64]; omega
    rw [hwf]
    cases h1 : decide ((0 : Int) ≤ (i : Int) - r)
    · conv => whnf
      have := of_decide_eq_false h1
      have hf : f i = false := by rw [← hff]; show (decide (r ≤ i) && _) = false; rw [decide_eq_false (by omega)]; rfl
      refine ⟨[], [], relo_of [] (by rfl) (by rfl), ?_⟩
      refine ⟨⟨i + 1, by omega, ?_, rfl⟩, hm⟩
      show shV n_shl A r w (acc f i : Nat) (IntKind.i64.wrap ((i : Int) + 1)) = _
      rw [hw1, show acc f (i + 1) = acc f i by rw [acc, hf]; rfl]
    · conv => whnf
      have := of_decide_eq_true h1
      rw [show ((i : Int) - r) = ((i - r : Nat) : Int) by omega]
      refine call_of [] (c_rbit A (i - r) (by omega)) (by rfl) (by rfl) ?_
      conv => whnf
      cases hb : A.testBit (i - r)
      · conv => whnf
        have hf : f i = false := by rw [← hff]; show (decide (r ≤ i) && A.testBit (i - r)) = false; rw [hb, Bool.and_false]
        refine ⟨[], [], relo_of [] (by rfl) (by rfl), ?_⟩
        refine ⟨⟨i + 1, by omega, ?_, rfl⟩, hm⟩
        show shV n_shl A r w (acc f i : Nat) (IntKind.i64.wrap ((i : Int) + 1)) = _
        rw [hw1, show acc f (i + 1) = acc f i by rw [acc, hf]; rfl]
      · conv => whnf
        have hf : f i = true := by rw [← hff]; show (decide (r ≤ i) && A.testBit (i - r)) = true; rw [hb, decide_eq_true (by omega)]; rfl
        refine ⟨by rw [IntKind.wrap_u64]; omega, ?_⟩
        conv => whnf
        refine ⟨[], [], relo_of [] (by rfl) (by rfl), ?_⟩
        refine ⟨⟨i + 1, by omega, ?_, rfl⟩, hm⟩
        show shV n_shl A r w (IntKind.u64.wrap ((acc f i : Nat) + IntKind.u64.wrap (1 * 2 ^ (min (IntKind.u64.wrap (i : Int)).toNat IntKind.u64.bits)))) (IntKind.i64.wrap ((i : Int) + 1)) = _
        rw [hw1, acc_step f i (by omega), acc, hf, if_pos rfl]

set_option maxRecDepth 100000 in
theorem c_shifted_shr_u (A r w : Nat) (hr : r < w) (hw : w ≤ 64) : SpecD S 33 [.str n_shr_u, .int .u64 (A : Int), .int .i64 (r : Int), .int .i64 (w : Int)] [] (.int .u64 ((acc (fun i => decide (i + r < w) && A.testBit (i + r)) w : Nat) : Int)) [] := by
  generalize hff : (fun i => decide (i + r < w) && A.testBit (i + r)) = f
  refine specE ok sh33 rfl ?_
  conv => whnf
  refine loop_of [] [] (fun vs H => ∃ i : Nat, i ≤ w ∧ vs = shV n_shr_u A r w (acc f i : Nat) i ∧ H = [])
    (fun vs _ => match vs with | [_, _, _, _, _, .int _ i] => w - i.toNat | _ => 0) (by rfl) (by rfl) (by rfl) (by rfl) ⟨0, Nat.zero_le _, rfl, rfl⟩ ?_
  rintro vs H1 ⟨i, hi, rfl, rfl⟩
  conv => whnf
  cases hd : decide ((i : Int) < w)
  · conv => whnf
    have := of_decide_eq_false hd
    obtain rfl : i = w := by omega
    exact end_of [] (by rfl) (by rfl) (by rfl) (by exact ⟨rfl, rfl⟩)
  · conv => whnf
    have hlt := of_decide_eq_true hd
    have hw1 : IntKind.i64.wrap ((i : Int) + 1) = ((i + 1 : Nat) : Int) := by rw [IntKind.wrap_i64]; omega
    have hm : w - (IntKind.i64.wrap ((i : Int) + 1)).toNat < w - (i : Int).toNat := by rw [hw1]; omega
    have hwf : IntKind.i64.wrap ((i : Int) + r) = ((i + r : Nat) : Int) := by rw [IntKind.wrap_i64]; omega
    rw [hwf]
    cases h1 : decide (((i + r : Nat) : Int) < w)
    · conv => whnf
      have := of_decide_eq_false h1
      have hf : f i = false := by rw [← hff]; show (decide (i + r < w) && _) = false; rw [decide_eq_false (by omega)]; rfl
      refine ⟨[], [], relo_of [] (by rfl) (by rfl), ?_⟩
      refine ⟨⟨i + 1, by omega, ?_, rfl⟩, hm⟩
      show shV n_shr_u A r w (acc f i : Nat) (IntKind.i64.wrap ((i : Int) + 1)) = _
      rw [hw1, show acc f (i + 1) = acc f i by rw [acc, hf]; rfl]
    · conv => whnf
      have := of_decide_eq_true h1
      refine call_of [] (c_rbit A (i + r) (by omega)) (by rfl) (by rfl) ?_
      conv => whnf
      cases hb : A.testBit (i + r)
      · conv => whnf
        have hf : f i = false := by rw [← hff]; show (decide (i + r < w) && A.testBit (i + r)) = false; rw [hb, Bool.and_false]
        refine ⟨[], [], relo_of [] (by rfl) (by rfl), ?_⟩
        refine ⟨⟨i + 1, by omega, ?_, rfl⟩, hm⟩
        show shV n_shr_u A r w (acc f i : Nat) (IntKind.i64.wrap ((i : Int) + 1)) = _
        rw [hw1, show acc f (i + 1) = acc f i by rw [acc, hf]; rfl]
      · conv => whnf
        have hf : f i = true := by rw [← hff]; show (decide (i + r < w) && A.testBit (i + r)) = true; rw [hb, decide_eq_true (by omega)]; rfl
        refine ⟨by rw [IntKind.wrap_u64]; omega, ?_⟩
        conv => whnf
        refine ⟨[], [], relo_of [] (by rfl) (by rfl), ?_⟩
        refine ⟨⟨i + 1, by omega, ?_, rfl⟩, hm⟩
        show shV n_shr_u A r w (IntKind.u64.wrap ((acc f i : Nat) + IntKind.u64.wrap (1 * 2 ^ (min (IntKind.u64.wrap (i : Int)).toNat IntKind.u64.bits)))) (IntKind.i64.wrap ((i : Int) + 1)) = _
        rw [hw1, acc_step f i (by omega), acc, hf, if_pos rfl]

set_option maxRecDepth 100000 in
theorem c_shifted_shr_s (A r w : Nat) (hr : r < w) (hw : w ≤ 64) : SpecD S 33 [.str n_shr_s, .int .u64 (A : Int), .int .i64 (r : Int), .int .i64 (w : Int)] [] (.int .u64 ((acc (fun i => A.testBit (if w ≤ i + r then w - 1 else i + r)) w : Nat) : Int)) [] := by
  generalize hff : (fun i => A.testBit (if w ≤ i + r then w - 1 else i + r)) = f
  refine specE ok sh33 rfl ?_
  conv => whnf
  refine loop_of [] [] (fun vs H => ∃ i : Nat, i ≤ w ∧ vs = shV n_shr_s A r w (acc f i : Nat) i ∧ H = [])
    (fun vs _ => match vs with | [_, _, _, _, _, .int _ i] => w - i.toNat | _ => 0) (by rfl) (by rfl) (by rfl) (by rfl) ⟨0, Nat.zero_le _, rfl, rfl⟩ ?_
  rintro vs H1 ⟨i, hi, rfl, rfl⟩
  conv => whnf
  cases hd : decide ((i : Int) < w)
  · conv => whnf
    have := of_decide_eq_false hd
    obtain rfl : i = w := by omega
    exact end_of [] (by rfl) (by rfl) (by rfl) (by exact ⟨rfl, rfl⟩)
  · conv => whnf
    have hlt := of_decide_eq_true hd
    have hw1 : IntKind.i64.wrap ((i : Int) + 1) = ((i + 1 : Nat) : Int) := by rw [IntKind.wrap_i64]; omega
    have hm : w - (IntKind.i64.wrap ((i : Int) + 1)).toNat < w - (i : Int).toNat := by rw [hw1]; omega
    have hwf : IntKind.i64.wrap ((i : Int) + r) = ((i + r : Nat) : Int) := by rw [IntKind.wrap_i64]; omega
    rw [hwf]
    cases h1 : decide ((w : Int) ≤ ((i + r : Nat) : Int))
    · conv => whnf
      have := of_decide_eq_false h1
      have hfi : f i = A.testBit (i + r) := by rw [← hff]; show A.testBit (if w ≤ i + r then w - 1 else i + r) = _; rw [if_neg (by omega)]
      refine call_of [] (c_rbit A (i + r) (by omega)) (by rfl) (by rfl) ?_
      conv => whnf
      cases hb : A.testBit (i + r)
      · conv => whnf
        have hf : f i = false := hfi.trans hb
        refine ⟨[], [], relo_of [] (by rfl) (by rfl), ?_⟩
        refine ⟨⟨i + 1, by omega, ?_, rfl⟩, hm⟩
        show shV n_shr_s A r w (acc f i : Nat) (IntKind.i64.wrap ((i : Int) + 1)) = _
        rw [hw1, show acc f (i + 1) = acc f i by rw [acc, hf]; rfl]
      · conv => whnf
        have hf : f i = true := hfi.trans hb
        refine ⟨by rw [IntKind.wrap_u64]; omega, ?_⟩
        conv => whnf
        refine ⟨[], [], relo_of [] (by rfl) (by rfl), ?_⟩
        refine ⟨⟨i + 1, by omega, ?_, rfl⟩, hm⟩
        show shV n_shr_s A r w (IntKind.u64.wrap ((acc f i : Nat) + IntKind.u64.wrap (1 * 2 ^ (min (IntKind.u64.wrap (i : Int)).toNat IntKind.u64.bits)))) (IntKind.i64.wrap ((i : Int) + 1)) = _
        rw [hw1, acc_step f i (by omega), acc, hf, if_pos rfl]
    · conv => whnf
      have := of_decide_eq_true h1
      have hfi : f i = A.testBit (w - 1) := by rw [← hff]; show A.testBit (if w ≤ i + r then w - 1 else i + r) = _; rw [if_pos (by omega)]
      rw [show IntKind.i64.wrap ((w : Int) - 1) = ((w - 1 : Nat) : Int) by rw [IntKind.wrap_i64]; omega]
      refine call_of [] (c_rbit A (w - 1) (by omega)) (by rfl) (by rfl) ?_
      conv => whnf
      cases hb : A.testBit (w - 1)
      · conv => whnf
        have hf : f i = false := hfi.trans hb
        refine ⟨[], [], relo_of [] (by rfl) (by rfl), ?_⟩
        refine ⟨⟨i + 1, by omega, ?_, rfl⟩, hm⟩
        show shV n_shr_s A r w (acc f i : Nat) (IntKind.i64.wrap ((i : Int) + 1)) = _
        rw [hw1, show acc f (i + 1) = acc f i by rw [acc, hf]; rfl]
      · conv => whnf
        have hf : f i = true := hfi.trans hb
        refine ⟨by rw [IntKind.wrap_u64]; omega, ?_⟩
        conv => whnf
        refine ⟨[], [], relo_of [] (by rfl) (by rfl), ?_⟩
        refine ⟨⟨i + 1, by omega, ?_, rfl⟩, hm⟩
        show shV n_shr_s A r w (IntKind.u64.wrap ((acc f i : Nat) + IntKind.u64.wrap (1 * 2 ^ (min (IntKind.u64.wrap (i : Int)).toNat IntKind.u64.bits)))) (IntKind.i64.wrap ((i : Int) + 1)) = _
        rw [hw1, acc_step f i (by omega), acc, hf, if_pos rfl]

set_option maxRecDepth 100000 in
theorem c_shifted_rotl (A r w : Nat) (hr : r < w) (hw : w ≤ 64) : SpecD S 33 [.str n_rotl, .int .u64 (A : Int), .int .i64 (r : Int), .int .i64 (w : Int)] [] (.int .u64 ((acc (fun i => A.testBit ((i + w - r) % w)) w : Nat) : Int)) [] := by
  generalize hff : (fun i => A.testBit ((i + w - r) % w)) = f
  refine specE ok sh33 rfl ?_
  conv => whnf
  refine loop_of [] [] (fun vs H => ∃ i : Nat, i ≤ w ∧ vs = shV n_rotl A r w (acc f i : Nat) i ∧ H = [])
    (fun vs _ => match vs with | [_, _, _, _, _, .int _ i] => w - i.toNat | _ => 0) (by rfl) (by rfl) (by rfl) (by rfl) ⟨0, Nat.zero_le _, rfl, rfl⟩ ?_
  rintro vs H1 ⟨i, hi, rfl, rfl⟩
  conv => whnf
  cases hd : decide ((i : Int) < w)
  · conv => whnf
    have := of_decide_eq_false hd
    obtain rfl : i = w := by omega
    exact end_of [] (by rfl) (by rfl) (by rfl) (by exact ⟨rfl, rfl⟩)
  · conv => whnf
    have hlt := of_decide_eq_true hd
    have hw1 : IntKind.i64.wrap ((i : Int) + 1) = ((i + 1 : Nat) : Int) := by rw [IntKind.wrap_i64]; omega
    have hm : w - (IntKind.i64.wrap ((i : Int) + 1)).toNat < w - (i : Int).toNat := by rw [hw1]; omega
    refine ⟨by omega, ?_⟩
    have hwf : IntKind.i64.wrap (IntKind.i64.wrap ((i : Int) - r) + w) = ((i + w - r : Nat) : Int) := by rw [IntKind.wrap_i64, IntKind.wrap_i64]; omega
    rw [hwf, show Int.tmod ((i + w - r : Nat) : Int) (w : Int) = (((i + w - r) % w : Nat) : Int) from rfl]
    conv => whnf
    have hlt2 : (i + w - r) % w < w := Nat.mod_lt _ (by omega)
    refine call_of [] (c_rbit A ((i + w - r) % w) (by omega)) (by rfl) (by rfl) ?_
    conv => whnf
    cases hb : A.testBit ((i + w - r) % w)
    · conv => whnf
      have hf : f i = false := by rw [← hff]; exact hb
      refine ⟨[], [], relo_of [] (by rfl) (by rfl), ?_⟩
      refine ⟨⟨i + 1, by omega, ?_, rfl⟩, hm⟩
      show shV n_rotl A r w (acc f i : Nat) (IntKind.i64.wrap ((i : Int) + 1)) = _
      rw [hw1, show acc f (i + 1) = acc f i by rw [acc, hf]; rfl]
    · conv => whnf
      have hf : f i = true := by rw [← hff]; exact hb
      refine ⟨by rw [IntKind.wrap_u64]; omega, ?_⟩
      conv => whnf
      refine ⟨[], [], relo_of [] (by rfl) (by rfl), ?_⟩
      refine ⟨⟨i + 1, by omega, ?_, rfl⟩, hm⟩
      show shV n_rotl A r w (IntKind.u64.wrap ((acc f i : Nat) + IntKind.u64.wrap (1 * 2 ^ (min (IntKind.u64.wrap (i : Int)).toNat IntKind.u64.bits)))) (IntKind.i64.wrap ((i : Int) + 1)) = _
      rw [hw1, acc_step f i (by omega), acc, hf, if_pos rfl]

set_option maxRecDepth 100000 in
theorem c_shifted_rotr (A r w : Nat) (hr : r < w) (hw : w ≤ 64) : SpecD S 33 [.str n_rotr, .int .u64 (A : Int), .int .i64 (r : Int), .int .i64 (w : Int)] [] (.int .u64 ((acc (fun i => A.testBit ((i + r) % w)) w : Nat) : Int)) [] := by
  generalize hff : (fun i => A.testBit ((i + r) % w)) = f
  refine specE ok sh33 rfl ?_
  conv => whnf
  refine loop_of [] [] (fun vs H => ∃ i : Nat, i ≤ w ∧ vs = shV n_rotr A r w (acc f i : Nat) i ∧ H = [])
    (fun vs _ => match vs with | [_, _, _, _, _, .int _ i] => w - i.toNat | _ => 0) (by rfl) (by rfl) (by rfl) (by rfl) ⟨0, Nat.zero_le _, rfl, rfl⟩ ?_
  rintro vs H1 ⟨i, hi, rfl, rfl⟩
  conv => whnf
  cases hd : decide ((i : Int) < w)
  · conv => whnf
    have := of_decide_eq_false hd
    obtain rfl : i = w := by omega
    exact end_of [] (by rfl) (by rfl) (by rfl) (by exact ⟨rfl, rfl⟩)
  · conv => whnf
    have hlt := of_decide_eq_true hd
    have hw1 : IntKind.i64.wrap ((i : Int) + 1) = ((i + 1 : Nat) : Int) := by rw [IntKind.wrap_i64]; omega
    have hm : w - (IntKind.i64.wrap ((i : Int) + 1)).toNat < w - (i : Int).toNat := by rw [hw1]; omega
    refine ⟨by omega, ?_⟩
    have hwf : IntKind.i64.wrap ((i : Int) + r) = ((i + r : Nat) : Int) := by rw [IntKind.wrap_i64]; omega
    rw [hwf, show Int.tmod ((i + r : Nat) : Int) (w : Int) = (((i + r) % w : Nat) : Int) from rfl]
    conv => whnf
    have hlt2 : (i + r) % w < w := Nat.mod_lt _ (by omega)
    refine call_of [] (c_rbit A ((i + r) % w) (by omega)) (by rfl) (by rfl) ?_
    conv => whnf
    cases hb : A.testBit ((i + r) % w)
    · conv => whnf
      have hf : f i = false := by rw [← hff]; exact hb
      refine ⟨[], [], relo_of [] (by rfl) (by rfl), ?_⟩
      refine ⟨⟨i + 1, by omega, ?_, rfl⟩, hm⟩
      show shV n_rotr A r w (acc f i : Nat) (IntKind.i64.wrap ((i : Int) + 1)) = _
      rw [hw1, show acc f (i + 1) = acc f i by rw [acc, hf]; rfl]
    · conv => whnf
      have hf : f i = true := by rw [← hff]; exact hb
      refine ⟨by rw [IntKind.wrap_u64]; omega, ?_⟩
      conv => whnf
      refine ⟨[], [], relo_of [] (by rfl) (by rfl), ?_⟩
      refine ⟨⟨i + 1, by omega, ?_, rfl⟩, hm⟩
      show shV n_rotr A r w (IntKind.u64.wrap ((acc f i : Nat) + IntKind.u64.wrap (1 * 2 ^ (min (IntKind.u64.wrap (i : Int)).toNat IntKind.u64.bits)))) (IntKind.i64.wrap ((i : Int) + 1)) = _
      rw [hw1, acc_step f i (by omega), acc, hf, if_pos rfl]

end Sh
end Go.Proofs.YtoegodeglgeomaaDoor
