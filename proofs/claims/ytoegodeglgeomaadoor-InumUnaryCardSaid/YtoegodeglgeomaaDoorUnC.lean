/- MADE BY PROGRAM (ungen.py): InumUnary: every operator of one value, of every value. -/
import Derived.Test.YtoegodeglgeomaaDoorURefB
import Derived.Test.YtoegodeglgeomaaDoorUKnow
import Derived.Test.YtoegodeglgeomaaDoorBitsShelf
import Derived.Test.YtoegodeglgeomaaDoorCnt
namespace Go.Proofs.YtoegodeglgeomaaDoor
open Go PopT CntT
namespace Sh

theorem spec_calls1 {f : Nat} {k k' : IntKind} {n r : Int} (h : ∀ w, S.inv w → Calls S.P f #[.int k n] w fun e w' => e = .returned (.int k' r) ∧ w' = w) : SpecD S f [.int k n] [] (.int k' r) [] := by
  intro E w args hE hsz hva
  obtain ⟨v, hv1, hv2⟩ := hva 0 (.int k n) rfl
  have hv : v = .int k n := VR.int_inv hv2
  subst hv
  obtain rfl : args = #[.int k n] := by
    have h1 : args.size = 1 := hsz
    refine Array.ext (by simp [h1]) fun i hi1 hi2 => ?_
    obtain rfl : i = 0 := by simp at hi2; omega
    have := Array.getElem?_eq_some_iff.1 hv1
    simpa using this.2
  refine (h w hE.gl.inv).mono ?_
  rintro e w' ⟨rfl, rfl⟩
  exact ⟨_, _, E, _, rfl, ⟨rfl, rfl⟩, VR.int _ _, hE, Ext.refl⟩

theorem tabAt_of {w : World} {nm : String} {g : Nat} {tab : List Nat} (hg : Tryd.prog.globalNamed nm = some g) (h : Lib.TabIs Tryd.prog w nm .u8 (tab.map Int.ofNat)) : TabAt g tab w := by
  intro j hj
  simp only [Lib.TabIs, World.var?, hg, Option.bind_some] at h
  split at h
  · rename_i cs _ _ hc
    obtain rfl := Option.some.inj h
    simp only [World.cell?, hc]
    simp [hj]
  · cases h

theorem c_lz64 (A : Nat) (hA : A < 18446744073709551616) : SpecD S 46 [.int .u64 (A : Int)] [] (.int .i64 (64 - (Lib.bitLen A : Int))) [] :=
  spec_calls1 fun w _ => by
    have := Any.bits_LeadingZeros64 Tryd.lays134 (A : Int) w (by omega) (by omega)
    rw [Int.toNat_natCast] at this
    exact this
theorem c_lz32 (A : Nat) (hA : A < 4294967296) : SpecD S 49 [.int .u32 (A : Int)] [] (.int .i64 (32 - (Lib.bitLen A : Int))) [] :=
  spec_calls1 fun w _ => by
    have := Any.bits_LeadingZeros32 Tryd.lays133 (A : Int) w (by omega) (by omega)
    rw [Int.toNat_natCast] at this
    exact this
theorem c_tz64 (A : Nat) (hA : A < 18446744073709551616) : SpecD S 47 [.int .u64 (A : Int)] [] (.int .i64 (Lib.ctz 64 A : Nat)) [] :=
  spec_calls1 fun w hw => Any7.bits_TrailingZeros64 Tryd.lays7n29 A hA w fun _ => tabAt_of (by kernel_rfl) hw.2.1
theorem c_tz32 (A : Nat) (hA : A < 4294967296) : SpecD S 50 [.int .u32 (A : Int)] [] (.int .i64 (Lib.ctz 32 A : Nat)) [] :=
  spec_calls1 fun w hw => Any7.bits_TrailingZeros32 Tryd.lays7n28 A hA w fun _ => tabAt_of (by kernel_rfl) hw.2.2

theorem e32 (A : Nat) : IntKind.u64.wrap (IntKind.u32.wrap (A : Int)) = ((A % 4294967296 : Nat) : Int) := by rw [u32_nat, u64_nat]; omega
theorem u64_nonneg (n : Int) : 0 ≤ IntKind.u64.wrap n := by rw [IntKind.wrap_u64]; omega
theorem uu (n : Int) : IntKind.u32.wrap (IntKind.u64.wrap n) = IntKind.u32.wrap n := by rw [IntKind.wrap_u64, IntKind.wrap_u32, IntKind.wrap_u32]; omega
theorem uwrap {A : Nat} (h : A < 18446744073709551616) : IntKind.u64.wrap (A : Int) = (A : Int) := by rw [u64_nat, Nat.mod_eq_of_lt h]

theorem c_rcN32 (A : Nat) : SpecD S 29 [.int .u64 (A : Int), .int .i64 32] [] (.int .u64 ((A % 4294967296 : Nat) : Int)) [] := by
  have := c_rcut32 (A : Int) (by omega)
  rw [e32] at this
  exact this
theorem c_rcN64 (A : Nat) : SpecD S 29 [.int .u64 (A : Int), .int .i64 64] [] (.int .u64 (A : Int)) [] := c_rcut64 _

set_option maxRecDepth 100000 in
theorem c_rcN8 (A : Nat) : SpecD S 29 [.int .u64 (A : Int), .int .i64 8] [] (.int .u64 ((A % 256 : Nat) : Int)) [] := by
  refine specE ok sh29 rfl ?_
  conv => whnf
  refine ⟨by decide, ?_⟩
  conv => whnf
  refine ⟨by decide, ?_⟩
  conv => whnf
  refine end_of [] (by rfl) (by rfl) (by rfl) ⟨congrArg (AV.int .u64) ?_, rfl⟩
  rfl

set_option maxRecDepth 100000 in
theorem c_rcN16 (A : Nat) : SpecD S 29 [.int .u64 (A : Int), .int .i64 16] [] (.int .u64 ((A % 65536 : Nat) : Int)) [] := by
  refine specE ok sh29 rfl ?_
  conv => whnf
  refine ⟨by decide, ?_⟩
  conv => whnf
  refine ⟨by decide, ?_⟩
  conv => whnf
  refine end_of [] (by rfl) (by rfl) (by rfl) ⟨congrArg (AV.int .u64) ?_, rfl⟩
  rfl

set_option maxRecDepth 100000 in
theorem c_rsgW8 (A : Nat) : SpecD S 38 [.int .u64 (A : Int), .int .i64 8] [] (.int .i64 (IntKind.i8.wrap (A : Int))) [] := by
  have hm : A % 256 < 256 := Nat.mod_lt _ (by decide)
  refine specE ok sh38 rfl ?_
  conv => whnf
  refine call_of [] (c_rcN8 A) (by rfl) (by rfl) ?_
  conv => whnf
  refine ⟨by decide, ?_⟩
  conv => whnf
  cases h : decide ((128 : Int) ≤ ((A % 256 : Nat) : Int))
  · rw [show decide (IntKind.u64.wrap (1 * 2 ^ (min (IntKind.u64.wrap (IntKind.i64.wrap (8 - 1))).toNat IntKind.u64.bits)) ≤ ((A % 256 : Nat) : Int)) = false from h]
    conv => whnf
    have := of_decide_eq_false h
    rw [show IntKind.i64.wrap ((A % 256 : Nat) : Int) = IntKind.i8.wrap (A : Int) by rw [IntKind.wrap_i64, wrap_i8']; omega]
    exact end_of [] (by rfl) (by rfl) (by rfl) (by exact ⟨rfl, rfl⟩)
  · rw [show decide (IntKind.u64.wrap (1 * 2 ^ (min (IntKind.u64.wrap (IntKind.i64.wrap (8 - 1))).toNat IntKind.u64.bits)) ≤ ((A % 256 : Nat) : Int)) = true from h]
    conv => whnf
    refine ⟨by decide, ?_⟩
    conv => whnf
    have := of_decide_eq_true h
    refine end_of [] (by rfl) (by rfl) (by rfl) ⟨congrArg (AV.int .i64) ?_, rfl⟩
    show IntKind.i64.wrap (IntKind.i64.wrap ((A % 256 : Nat) : Int) - 256) = _
    rw [IntKind.wrap_i64, IntKind.wrap_i64, wrap_i8']; omega

set_option maxRecDepth 100000 in
theorem c_rsgW16 (A : Nat) : SpecD S 38 [.int .u64 (A : Int), .int .i64 16] [] (.int .i64 (IntKind.i16.wrap (A : Int))) [] := by
  have hm : A % 65536 < 65536 := Nat.mod_lt _ (by decide)
  refine specE ok sh38 rfl ?_
  conv => whnf
  refine call_of [] (c_rcN16 A) (by rfl) (by rfl) ?_
  conv => whnf
  refine ⟨by decide, ?_⟩
  conv => whnf
  cases h : decide ((32768 : Int) ≤ ((A % 65536 : Nat) : Int))
  · rw [show decide (IntKind.u64.wrap (1 * 2 ^ (min (IntKind.u64.wrap (IntKind.i64.wrap (16 - 1))).toNat IntKind.u64.bits)) ≤ ((A % 65536 : Nat) : Int)) = false from h]
    conv => whnf
    have := of_decide_eq_false h
    rw [show IntKind.i64.wrap ((A % 65536 : Nat) : Int) = IntKind.i16.wrap (A : Int) by rw [IntKind.wrap_i64, wrap_i16']; omega]
    exact end_of [] (by rfl) (by rfl) (by rfl) (by exact ⟨rfl, rfl⟩)
  · rw [show decide (IntKind.u64.wrap (1 * 2 ^ (min (IntKind.u64.wrap (IntKind.i64.wrap (16 - 1))).toNat IntKind.u64.bits)) ≤ ((A % 65536 : Nat) : Int)) = true from h]
    conv => whnf
    refine ⟨by decide, ?_⟩
    conv => whnf
    have := of_decide_eq_true h
    refine end_of [] (by rfl) (by rfl) (by rfl) ⟨congrArg (AV.int .i64) ?_, rfl⟩
    show IntKind.i64.wrap (IntKind.i64.wrap ((A % 65536 : Nat) : Int) - 65536) = _
    rw [IntKind.wrap_i64, IntKind.wrap_i64, wrap_i16']; omega

set_option maxRecDepth 100000 in
theorem c_rsgW32 (A : Nat) : SpecD S 38 [.int .u64 (A : Int), .int .i64 32] [] (.int .i64 (IntKind.i32.wrap (A : Int))) [] := by
  have hm : A % 4294967296 < 4294967296 := Nat.mod_lt _ (by decide)
  refine specE ok sh38 rfl ?_
  conv => whnf
  refine call_of [] (c_rcN32 A) (by rfl) (by rfl) ?_
  conv => whnf
  refine ⟨by decide, ?_⟩
  conv => whnf
  cases h : decide ((2147483648 : Int) ≤ ((A % 4294967296 : Nat) : Int))
  · rw [show decide (IntKind.u64.wrap (1 * 2 ^ (min (IntKind.u64.wrap (IntKind.i64.wrap (32 - 1))).toNat IntKind.u64.bits)) ≤ ((A % 4294967296 : Nat) : Int)) = false from h]
    conv => whnf
    have := of_decide_eq_false h
    rw [show IntKind.i64.wrap ((A % 4294967296 : Nat) : Int) = IntKind.i32.wrap (A : Int) by rw [IntKind.wrap_i64, wrap_i32b]; omega]
    exact end_of [] (by rfl) (by rfl) (by rfl) (by exact ⟨rfl, rfl⟩)
  · rw [show decide (IntKind.u64.wrap (1 * 2 ^ (min (IntKind.u64.wrap (IntKind.i64.wrap (32 - 1))).toNat IntKind.u64.bits)) ≤ ((A % 4294967296 : Nat) : Int)) = true from h]
    conv => whnf
    refine ⟨by decide, ?_⟩
    conv => whnf
    have := of_decide_eq_true h
    refine end_of [] (by rfl) (by rfl) (by rfl) ⟨congrArg (AV.int .i64) ?_, rfl⟩
    show IntKind.i64.wrap (IntKind.i64.wrap ((A % 4294967296 : Nat) : Int) - 4294967296) = _
    rw [IntKind.wrap_i64, IntKind.wrap_i64, wrap_i32b]; omega

/-! ### Counts of the reference -/
def cntV (A w n : Int) : List V := [.int .u64 A, .int .i64 w, .int .i64 n]

set_option maxRecDepth 100000 in
theorem c_cnt_clz (A w : Nat) (hw : w ≤ 64) (hA : A < 2 ^ w) : SpecD S 39 [.str n_clz, .int .u64 (A : Int), .int .i64 (w : Int)] [] (.int .u64 ((w - Lib.bitLen A : Nat) : Int)) [] := by
  refine specE ok sh39 rfl ?_
  conv => whnf
  refine loop_of [] [] (fun vs H => ∃ n : Nat, n ≤ w ∧ A < 2 ^ (w - n) ∧ vs = cntV A w n ∧ H = [])
    (fun vs _ => match vs with | [_, _, .int _ n] => w - n.toNat | _ => 0) (by rfl) (by rfl) (by rfl) (by rfl) ⟨0, Nat.zero_le _, hA, rfl, rfl⟩ ?_
  rintro vs H1 ⟨n, hn, ha, rfl, rfl⟩
  conv => whnf
  cases hd : decide ((n : Int) < w)
  · conv => whnf
    have := of_decide_eq_false hd
    obtain rfl : n = w := by omega
    have h0 : A = 0 := by rw [Nat.sub_self] at ha; omega
    rw [uwrap (show n < 18446744073709551616 by omega), show n - Lib.bitLen A = n by rw [h0, bitLen_zero]; rfl]
    exact end_of [] (by rfl) (by rfl) (by rfl) (by exact ⟨rfl, rfl⟩)
  · conv => whnf
    have hlt := of_decide_eq_true hd
    rw [show IntKind.i64.wrap (IntKind.i64.wrap ((w : Int) - 1) - n) = ((w - 1 - n : Nat) : Int) by rw [IntKind.wrap_i64, IntKind.wrap_i64]; omega]
    refine call_of [] (c_rbit A (w - 1 - n) (by omega)) (by rfl) (by rfl) ?_
    conv => whnf
    have hw1 : IntKind.i64.wrap ((n : Int) + 1) = ((n + 1 : Nat) : Int) := by rw [IntKind.wrap_i64]; omega
    cases hb : A.testBit (w - 1 - n)
    · conv => whnf
      refine ⟨[], [], relo_of [] (by rfl) (by rfl), ?_⟩
      refine ⟨⟨n + 1, by omega, ?_, congrArg (cntV A w) hw1, rfl⟩, ?_⟩
      · rw [show w - (n + 1) = w - 1 - n by omega]
        exact lt_next (by rw [show w - 1 - n + 1 = w - n by omega]; exact ha) hb
      · show w - (IntKind.i64.wrap ((n : Int) + 1)).toNat < w - (n : Int).toNat
        rw [hw1]; omega
    · conv => whnf
      have hbl : Lib.bitLen A = w - 1 - n + 1 := bitLen_at (ge_of_bit hb) (by rw [show w - 1 - n + 1 = w - n by omega]; exact ha) (by omega)
      rw [uwrap (show n < 18446744073709551616 by omega), show w - Lib.bitLen A = n by rw [hbl]; omega]
      exact end_of [] (by rfl) (by rfl) (by rfl) (by exact ⟨rfl, rfl⟩)

set_option maxRecDepth 100000 in
theorem c_cnt_ctz (A w : Nat) (hw : w ≤ 64) (hA : A < 2 ^ w) : SpecD S 39 [.str n_ctz, .int .u64 (A : Int), .int .i64 (w : Int)] [] (.int .u64 ((Lib.ctz w A : Nat) : Int)) [] := by
  refine specE ok sh39 rfl ?_
  conv => whnf
  refine loop_of [] [] (fun vs H => ∃ n : Nat, n ≤ w ∧ A % 2 ^ n = 0 ∧ vs = cntV A w n ∧ H = [])
    (fun vs _ => match vs with | [_, _, .int _ n] => w - n.toNat | _ => 0) (by rfl) (by rfl) (by rfl) (by rfl) ⟨0, Nat.zero_le _, by rw [Nat.pow_zero, Nat.mod_one], rfl, rfl⟩ ?_
  rintro vs H1 ⟨n, hn, ha, rfl, rfl⟩
  conv => whnf
  cases hd : decide ((n : Int) < w)
  · conv => whnf
    have := of_decide_eq_false hd
    obtain rfl : n = w := by omega
    have h0 : A = 0 := by rw [Nat.mod_eq_of_lt hA] at ha; exact ha
    rw [uwrap (show n < 18446744073709551616 by omega), show Lib.ctz n A = n by rw [h0]; rfl]
    exact end_of [] (by rfl) (by rfl) (by rfl) (by exact ⟨rfl, rfl⟩)
  · conv => whnf
    have hlt := of_decide_eq_true hd
    refine call_of [] (c_rbit A n (by omega)) (by rfl) (by rfl) ?_
    conv => whnf
    have hw1 : IntKind.i64.wrap ((n : Int) + 1) = ((n + 1 : Nat) : Int) := by rw [IntKind.wrap_i64]; omega
    cases hb : A.testBit n
    · conv => whnf
      refine ⟨[], [], relo_of [] (by rfl) (by rfl), ?_⟩
      refine ⟨⟨n + 1, by omega, mod_next ha hb, congrArg (cntV A w) hw1, rfl⟩, ?_⟩
      show w - (IntKind.i64.wrap ((n : Int) + 1)).toNat < w - (n : Int).toNat
      rw [hw1]; omega
    · conv => whnf
      have hc : Lib.ctz w A = n := ctz_at ha (by rw [Nat.testBit_eq_decide_div_mod_eq] at hb; exact of_decide_eq_true hb) (by omega)
      rw [uwrap (show n < 18446744073709551616 by omega), hc]
      exact end_of [] (by rfl) (by rfl) (by rfl) (by exact ⟨rfl, rfl⟩)

def cntW (A w n i : Int) : List V := [.int .u64 A, .int .i64 w, .int .i64 n, .int .i64 i]

set_option maxRecDepth 100000 in
theorem c_cnt_popcnt (A w : Nat) (hw : w ≤ 64) : SpecD S 39 [.str n_popcnt, .int .u64 (A : Int), .int .i64 (w : Int)] [] (.int .u64 ((popc w A : Nat) : Int)) [] := by
  refine specE ok sh39 rfl ?_
  conv => whnf
  refine loop_of [] [] (fun vs H => ∃ i : Nat, i ≤ w ∧ vs = cntW A w (popc i A : Nat) i ∧ H = [])
    (fun vs _ => match vs with | [_, _, _, .int _ i] => w - i.toNat | _ => 0) (by rfl) (by rfl) (by rfl) (by rfl) ⟨0, Nat.zero_le _, rfl, rfl⟩ ?_
  rintro vs H1 ⟨i, hi, rfl, rfl⟩
  have hp := popc_le i A
  conv => whnf
  cases hd : decide ((i : Int) < w)
  · conv => whnf
    have := of_decide_eq_false hd
    obtain rfl : i = w := by omega
    rw [uwrap (show popc i A < 18446744073709551616 by omega)]
    exact end_of [] (by rfl) (by rfl) (by rfl) (by exact ⟨rfl, rfl⟩)
  · conv => whnf
    have hlt := of_decide_eq_true hd
    refine call_of [] (c_rbit A i (by omega)) (by rfl) (by rfl) ?_
    conv => whnf
    have hw1 : IntKind.i64.wrap ((i : Int) + 1) = ((i + 1 : Nat) : Int) := by rw [IntKind.wrap_i64]; omega
    have hm : w - (IntKind.i64.wrap ((i : Int) + 1)).toNat < w - (i : Int).toNat := by rw [hw1]; omega
    have hs := popc_step i A
    cases hb : A.testBit i
    · conv => whnf
      rw [hb, if_neg (by simp)] at hs
      refine ⟨[], [], relo_of [] (by rfl) (by rfl), ?_⟩
      refine ⟨⟨i + 1, by omega, ?_, rfl⟩, hm⟩
      rw [hs]
      exact congrArg (cntW A w (popc i A : Nat)) hw1
    · conv => whnf
      rw [hb, if_pos rfl] at hs
      refine ⟨[], [], relo_of [] (by rfl) (by rfl), ?_⟩
      refine ⟨⟨i + 1, by omega, ?_, rfl⟩, hm⟩
      rw [hs]
      show cntW A w (IntKind.i64.wrap ((popc i A : Nat) + 1)) (IntKind.i64.wrap ((i : Int) + 1)) = _
      rw [hw1, show IntKind.i64.wrap (((popc i A : Nat) : Int) + 1) = ((popc i A + 1 : Nat) : Int) by rw [IntKind.wrap_i64]; omega]

set_option maxRecDepth 100000 in
theorem c_u32_clz (A : Nat) (hA : A < 4294967296) : SpecD S 36 [.str n_clz, .int .u32 (A : Int)] [] (.int .u64 ((32 - Lib.bitLen A : Nat) : Int)) [] := by
  have hl := Any.bitLen_le32 (A : Int) (by omega) (by omega)
  rw [Int.toNat_natCast] at hl
  refine specE ok sh36 rfl ?_
  conv => whnf
  refine call_of [] (c_lz32 A hA) (by rfl) (by rfl) ?_
  conv => whnf
  rw [show IntKind.u64.wrap (32 - (Lib.bitLen A : Int)) = ((32 - Lib.bitLen A : Nat) : Int) by rw [IntKind.wrap_u64]; omega]
  exact end_of [] (by rfl) (by rfl) (by rfl) (by exact ⟨rfl, rfl⟩)

set_option maxRecDepth 100000 in
theorem c_u32_ctz (A : Nat) (hA : A < 4294967296) : SpecD S 36 [.str n_ctz, .int .u32 (A : Int)] [] (.int .u64 ((Lib.ctz 32 A : Nat) : Int)) [] := by
  have hl : Lib.ctz 32 A < 18446744073709551616 := by
    unfold Lib.ctz
    split
    · decide
    · obtain ⟨_, _, h⟩ := Lib.ctzFrom_spec 32 A (by omega) (by omega)
      omega
  refine specE ok sh36 rfl ?_
  conv => whnf
  refine call_of [] (c_tz32 A hA) (by rfl) (by rfl) ?_
  conv => whnf
  rw [uwrap hl]
  exact end_of [] (by rfl) (by rfl) (by rfl) (by exact ⟨rfl, rfl⟩)

set_option maxRecDepth 100000 in
theorem c_u32_eqz (A : Int) : SpecD S 36 [.str n_eqz, .int .u32 A] [] (.int .u64 (tr (A == 0))) [] := by
  refine specE ok sh36 rfl ?_
  conv => whnf
  refine call_of [] (c_truth (A == 0)) (by rfl) (by rfl) ?_
  conv => whnf
  exact end_of [] (by rfl) (by rfl) (by rfl) (by exact ⟨rfl, rfl⟩)

set_option maxRecDepth 100000 in
theorem c_u64_clz (A : Nat) (hA : A < 18446744073709551616) : SpecD S 35 [.str n_clz, .int .u64 (A : Int)] [] (.int .u64 ((64 - Lib.bitLen A : Nat) : Int)) [] := by
  have hl := Any.bitLen_le64 (A : Int) (by omega) (by omega)
  rw [Int.toNat_natCast] at hl
  refine specE ok sh35 rfl ?_
  conv => whnf
  refine call_of [] (c_lz64 A hA) (by rfl) (by rfl) ?_
  conv => whnf
  rw [show IntKind.u64.wrap (64 - (Lib.bitLen A : Int)) = ((64 - Lib.bitLen A : Nat) : Int) by rw [IntKind.wrap_u64]; omega]
  exact end_of [] (by rfl) (by rfl) (by rfl) (by exact ⟨rfl, rfl⟩)

set_option maxRecDepth 100000 in
theorem c_u64_ctz (A : Nat) (hA : A < 18446744073709551616) : SpecD S 35 [.str n_ctz, .int .u64 (A : Int)] [] (.int .u64 ((Lib.ctz 64 A : Nat) : Int)) [] := by
  have hl : Lib.ctz 64 A < 18446744073709551616 := by
    unfold Lib.ctz
    split
    · decide
    · obtain ⟨_, _, h⟩ := Lib.ctzFrom_spec 64 A (by omega) (by omega)
      omega
  refine specE ok sh35 rfl ?_
  conv => whnf
  refine call_of [] (c_tz64 A hA) (by rfl) (by rfl) ?_
  conv => whnf
  rw [uwrap hl]
  exact end_of [] (by rfl) (by rfl) (by rfl) (by exact ⟨rfl, rfl⟩)

set_option maxRecDepth 100000 in
theorem c_u64_eqz (A : Int) : SpecD S 35 [.str n_eqz, .int .u64 A] [] (.int .u64 (tr (A == 0))) [] := by
  refine specE ok sh35 rfl ?_
  conv => whnf
  refine call_of [] (c_truth (A == 0)) (by rfl) (by rfl) ?_
  conv => whnf
  exact end_of [] (by rfl) (by rfl) (by rfl) (by exact ⟨rfl, rfl⟩)

set_option maxRecDepth 100000 in
theorem c_uu_69 (A : Nat) (_hA : A < 18446744073709551616) : Un 69 A (tr ((((A % 4294967296) : Nat) : Int) == 0)) := by
  refine specE ok sh24 rfl ?_
  conv => whnf
  refine call_of [] (f_69) (by rfl) (by rfl) ?_
  conv => whnf
  refine call_of [] (c_ar_eqz) (by rfl) (by rfl) ?_
  conv => whnf
  rw [u32_nat]
  refine call_of [] (c_u32_eqz (((A % 4294967296) : Nat) : Int)) (by rfl) (by rfl) ?_
  conv => whnf
  exact end_of [] (by rfl) (by rfl) (by rfl) (by exact ⟨rfl, rfl⟩)

set_option maxRecDepth 100000 in
theorem c_ru_69 (A : Nat) (_ : A < 18446744073709551616) : SpecD S 25 [.int .i64 69, .int .u64 (A : Int)] [] (.int .u64 (tr ((((A % 4294967296) : Nat) : Int) == 0))) [] := by
  have c := c_refName 69
  rw [r_69] at c
  refine specE ok sh25 rfl ?_
  conv => whnf
  refine call_of [] (c_bits_69) (by rfl) (by rfl) ?_
  conv => whnf
  refine call_of [] (c_rcN32 A) (by rfl) (by rfl) ?_
  conv => whnf
  refine call_of [] (c) (by rfl) (by rfl) ?_
  conv => whnf
  refine call_of [] (c_rtruth ((((A % 4294967296) : Nat) : Int) == 0)) (by rfl) (by rfl) ?_
  conv => whnf
  exact end_of [] (by rfl) (by rfl) (by rfl) (by exact ⟨rfl, rfl⟩)

set_option maxRecDepth 100000 in
theorem c_uu_80 (A : Nat) (_hA : A < 18446744073709551616) : Un 80 A (tr (((A : Nat) : Int) == 0)) := by
  refine specE ok sh24 rfl ?_
  conv => whnf
  refine call_of [] (f_80) (by rfl) (by rfl) ?_
  conv => whnf
  refine call_of [] (c_ar_eqz) (by rfl) (by rfl) ?_
  conv => whnf
  refine call_of [] (c_u64_eqz ((A : Nat) : Int)) (by rfl) (by rfl) ?_
  conv => whnf
  exact end_of [] (by rfl) (by rfl) (by rfl) (by exact ⟨rfl, rfl⟩)

set_option maxRecDepth 100000 in
theorem c_ru_80 (A : Nat) (_ : A < 18446744073709551616) : SpecD S 25 [.int .i64 80, .int .u64 (A : Int)] [] (.int .u64 (tr (((A : Nat) : Int) == 0))) [] := by
  have c := c_refName 80
  rw [r_80] at c
  refine specE ok sh25 rfl ?_
  conv => whnf
  refine call_of [] (c_bits_80) (by rfl) (by rfl) ?_
  conv => whnf
  refine call_of [] (c_rcN64 A) (by rfl) (by rfl) ?_
  conv => whnf
  refine call_of [] (c) (by rfl) (by rfl) ?_
  conv => whnf
  refine call_of [] (c_rtruth (((A : Nat) : Int) == 0)) (by rfl) (by rfl) ?_
  conv => whnf
  exact end_of [] (by rfl) (by rfl) (by rfl) (by exact ⟨rfl, rfl⟩)

set_option maxRecDepth 100000 in
theorem c_uu_103 (A : Nat) (_hA : A < 18446744073709551616) : Un 103 A (((32 - Lib.bitLen (A % 4294967296) : Nat) : Int)) := by
  refine specE ok sh24 rfl ?_
  conv => whnf
  refine call_of [] (f_103) (by rfl) (by rfl) ?_
  conv => whnf
  refine call_of [] (c_ar_clz) (by rfl) (by rfl) ?_
  conv => whnf
  rw [u32_nat]
  refine call_of [] (c_u32_clz (A % 4294967296) (Nat.mod_lt _ (by decide))) (by rfl) (by rfl) ?_
  conv => whnf
  exact end_of [] (by rfl) (by rfl) (by rfl) (by exact ⟨rfl, rfl⟩)

set_option maxRecDepth 100000 in
theorem c_ru_103 (A : Nat) (_ : A < 18446744073709551616) : SpecD S 25 [.int .i64 103, .int .u64 (A : Int)] [] (.int .u64 (((32 - Lib.bitLen (A % 4294967296) : Nat) : Int))) [] := by
  have c := c_refName 103
  rw [r_103] at c
  refine specE ok sh25 rfl ?_
  conv => whnf
  refine call_of [] (c_bits_103) (by rfl) (by rfl) ?_
  conv => whnf
  refine call_of [] (c_rcN32 A) (by rfl) (by rfl) ?_
  conv => whnf
  refine call_of [] (c) (by rfl) (by rfl) ?_
  conv => whnf
  refine call_of [] (c) (by rfl) (by rfl) ?_
  conv => whnf
  refine call_of [] (c_cnt_clz (A % 4294967296) 32 (by decide) (Nat.mod_lt _ (by decide))) (by rfl) (by rfl) ?_
  conv => whnf
  exact end_of [] (by rfl) (by rfl) (by rfl) (by exact ⟨rfl, rfl⟩)

set_option maxRecDepth 100000 in
theorem c_uu_104 (A : Nat) (_hA : A < 18446744073709551616) : Un 104 A (((Lib.ctz 32 (A % 4294967296) : Nat) : Int)) := by
  refine specE ok sh24 rfl ?_
  conv => whnf
  refine call_of [] (f_104) (by rfl) (by rfl) ?_
  conv => whnf
  refine call_of [] (c_ar_ctz) (by rfl) (by rfl) ?_
  conv => whnf
  rw [u32_nat]
  refine call_of [] (c_u32_ctz (A % 4294967296) (Nat.mod_lt _ (by decide))) (by rfl) (by rfl) ?_
  conv => whnf
  exact end_of [] (by rfl) (by rfl) (by rfl) (by exact ⟨rfl, rfl⟩)

set_option maxRecDepth 100000 in
theorem c_ru_104 (A : Nat) (_ : A < 18446744073709551616) : SpecD S 25 [.int .i64 104, .int .u64 (A : Int)] [] (.int .u64 (((Lib.ctz 32 (A % 4294967296) : Nat) : Int))) [] := by
  have c := c_refName 104
  rw [r_104] at c
  refine specE ok sh25 rfl ?_
  conv => whnf
  refine call_of [] (c_bits_104) (by rfl) (by rfl) ?_
  conv => whnf
  refine call_of [] (c_rcN32 A) (by rfl) (by rfl) ?_
  conv => whnf
  refine call_of [] (c) (by rfl) (by rfl) ?_
  conv => whnf
  refine call_of [] (c) (by rfl) (by rfl) ?_
  conv => whnf
  refine call_of [] (c_cnt_ctz (A % 4294967296) 32 (by decide) (Nat.mod_lt _ (by decide))) (by rfl) (by rfl) ?_
  conv => whnf
  exact end_of [] (by rfl) (by rfl) (by rfl) (by exact ⟨rfl, rfl⟩)

theorem c_uu_105 (A : Nat) (hA : A < 18446744073709551616) : Un 105 A (((popc 32 (A % 4294967296) : Nat) : Int)) := c_un_popcnt_32 A hA

set_option maxRecDepth 100000 in
theorem c_ru_105 (A : Nat) (_ : A < 18446744073709551616) : SpecD S 25 [.int .i64 105, .int .u64 (A : Int)] [] (.int .u64 (((popc 32 (A % 4294967296) : Nat) : Int))) [] := by
  have c := c_refName 105
  rw [r_105] at c
  refine specE ok sh25 rfl ?_
  conv => whnf
  refine call_of [] (c_bits_105) (by rfl) (by rfl) ?_
  conv => whnf
  refine call_of [] (c_rcN32 A) (by rfl) (by rfl) ?_
  conv => whnf
  refine call_of [] (c) (by rfl) (by rfl) ?_
  conv => whnf
  refine call_of [] (c) (by rfl) (by rfl) ?_
  conv => whnf
  refine call_of [] (c_cnt_popcnt (A % 4294967296) 32 (by decide)) (by rfl) (by rfl) ?_
  conv => whnf
  exact end_of [] (by rfl) (by rfl) (by rfl) (by exact ⟨rfl, rfl⟩)

set_option maxRecDepth 100000 in
theorem c_uu_121 (A : Nat) (hA : A < 18446744073709551616) : Un 121 A (((64 - Lib.bitLen A : Nat) : Int)) := by
  refine specE ok sh24 rfl ?_
  conv => whnf
  refine call_of [] (f_121) (by rfl) (by rfl) ?_
  conv => whnf
  refine call_of [] (c_ar_clz) (by rfl) (by rfl) ?_
  conv => whnf
  refine call_of [] (c_u64_clz A hA) (by rfl) (by rfl) ?_
  conv => whnf
  exact end_of [] (by rfl) (by rfl) (by rfl) (by exact ⟨rfl, rfl⟩)

set_option maxRecDepth 100000 in
theorem c_ru_121 (A : Nat) (hA : A < 18446744073709551616) : SpecD S 25 [.int .i64 121, .int .u64 (A : Int)] [] (.int .u64 (((64 - Lib.bitLen A : Nat) : Int))) [] := by
  have c := c_refName 121
  rw [r_121] at c
  refine specE ok sh25 rfl ?_
  conv => whnf
  refine call_of [] (c_bits_121) (by rfl) (by rfl) ?_
  conv => whnf
  refine call_of [] (c_rcN64 A) (by rfl) (by rfl) ?_
  conv => whnf
  refine call_of [] (c) (by rfl) (by rfl) ?_
  conv => whnf
  refine call_of [] (c) (by rfl) (by rfl) ?_
  conv => whnf
  refine call_of [] (c_cnt_clz A 64 (by decide) hA) (by rfl) (by rfl) ?_
  conv => whnf
  exact end_of [] (by rfl) (by rfl) (by rfl) (by exact ⟨rfl, rfl⟩)

set_option maxRecDepth 100000 in
theorem c_uu_122 (A : Nat) (hA : A < 18446744073709551616) : Un 122 A (((Lib.ctz 64 A : Nat) : Int)) := by
  refine specE ok sh24 rfl ?_
  conv => whnf
  refine call_of [] (f_122) (by rfl) (by rfl) ?_
  conv => whnf
  refine call_of [] (c_ar_ctz) (by rfl) (by rfl) ?_
  conv => whnf
  refine call_of [] (c_u64_ctz A hA) (by rfl) (by rfl) ?_
  conv => whnf
  exact end_of [] (by rfl) (by rfl) (by rfl) (by exact ⟨rfl, rfl⟩)

set_option maxRecDepth 100000 in
theorem c_ru_122 (A : Nat) (hA : A < 18446744073709551616) : SpecD S 25 [.int .i64 122, .int .u64 (A : Int)] [] (.int .u64 (((Lib.ctz 64 A : Nat) : Int))) [] := by
  have c := c_refName 122
  rw [r_122] at c
  refine specE ok sh25 rfl ?_
  conv => whnf
  refine call_of [] (c_bits_122) (by rfl) (by rfl) ?_
  conv => whnf
  refine call_of [] (c_rcN64 A) (by rfl) (by rfl) ?_
  conv => whnf
  refine call_of [] (c) (by rfl) (by rfl) ?_
  conv => whnf
  refine call_of [] (c) (by rfl) (by rfl) ?_
  conv => whnf
  refine call_of [] (c_cnt_ctz A 64 (by decide) hA) (by rfl) (by rfl) ?_
  conv => whnf
  exact end_of [] (by rfl) (by rfl) (by rfl) (by exact ⟨rfl, rfl⟩)

theorem c_uu_123 (A : Nat) (hA : A < 18446744073709551616) : Un 123 A (((popc 64 A : Nat) : Int)) := c_un_popcnt_64 A hA

set_option maxRecDepth 100000 in
theorem c_ru_123 (A : Nat) (_ : A < 18446744073709551616) : SpecD S 25 [.int .i64 123, .int .u64 (A : Int)] [] (.int .u64 (((popc 64 A : Nat) : Int))) [] := by
  have c := c_refName 123
  rw [r_123] at c
  refine specE ok sh25 rfl ?_
  conv => whnf
  refine call_of [] (c_bits_123) (by rfl) (by rfl) ?_
  conv => whnf
  refine call_of [] (c_rcN64 A) (by rfl) (by rfl) ?_
  conv => whnf
  refine call_of [] (c) (by rfl) (by rfl) ?_
  conv => whnf
  refine call_of [] (c) (by rfl) (by rfl) ?_
  conv => whnf
  refine call_of [] (c_cnt_popcnt A 64 (by decide)) (by rfl) (by rfl) ?_
  conv => whnf
  exact end_of [] (by rfl) (by rfl) (by rfl) (by exact ⟨rfl, rfl⟩)

theorem c_uu_167 (A : Nat) (_ : A < 18446744073709551616) : Un 167 A (((A % 4294967296 : Nat) : Int)) := by
  have k := c_un_167 (A : Int)
  rw [e32] at k
  exact k

set_option maxRecDepth 100000 in
theorem c_ru_167 (A : Nat) (_ : A < 18446744073709551616) : SpecD S 25 [.int .i64 167, .int .u64 (A : Int)] [] (.int .u64 (((A % 4294967296 : Nat) : Int))) [] := by
  have c := c_refName 167
  rw [r_167] at c
  refine specE ok sh25 rfl ?_
  conv => whnf
  refine call_of [] (c_bits_167) (by rfl) (by rfl) ?_
  conv => whnf
  refine call_of [] (c_rcN64 A) (by rfl) (by rfl) ?_
  conv => whnf
  refine call_of [] (c) (by rfl) (by rfl) ?_
  conv => whnf
  refine call_of [] (c_rcN32 A) (by rfl) (by rfl) ?_
  conv => whnf
  exact end_of [] (by rfl) (by rfl) (by rfl) (by exact ⟨rfl, rfl⟩)

theorem c_uu_172 (A : Nat) (_ : A < 18446744073709551616) : Un 172 A (IntKind.u64.wrap (IntKind.i32.wrap ((A % 4294967296 : Nat) : Int))) := by
  have k := c_un_172 (A : Int)
  rw [u32_nat] at k
  exact k

set_option maxRecDepth 100000 in
theorem c_ru_172 (A : Nat) (_ : A < 18446744073709551616) : SpecD S 25 [.int .i64 172, .int .u64 (A : Int)] [] (.int .u64 (IntKind.u64.wrap (IntKind.i32.wrap ((A % 4294967296 : Nat) : Int)))) [] := by
  have c := c_refName 172
  rw [r_172] at c
  refine specE ok sh25 rfl ?_
  conv => whnf
  refine call_of [] (c_bits_172) (by rfl) (by rfl) ?_
  conv => whnf
  refine call_of [] (c_rcN32 A) (by rfl) (by rfl) ?_
  conv => whnf
  refine call_of [] (c) (by rfl) (by rfl) ?_
  conv => whnf
  refine call_of [] (c_rsgW32 (A % 4294967296)) (by rfl) (by rfl) ?_
  conv => whnf
  exact end_of [] (by rfl) (by rfl) (by rfl) (by exact ⟨rfl, rfl⟩)

theorem c_uu_173 (A : Nat) (_ : A < 18446744073709551616) : Un 173 A (((A % 4294967296 : Nat) : Int)) := by
  have k := c_un_173 (A : Int)
  rw [e32] at k
  exact k

set_option maxRecDepth 100000 in
theorem c_ru_173 (A : Nat) (_ : A < 18446744073709551616) : SpecD S 25 [.int .i64 173, .int .u64 (A : Int)] [] (.int .u64 (((A % 4294967296 : Nat) : Int))) [] := by
  have c := c_refName 173
  rw [r_173] at c
  refine specE ok sh25 rfl ?_
  conv => whnf
  refine call_of [] (c_bits_173) (by rfl) (by rfl) ?_
  conv => whnf
  refine call_of [] (c_rcN32 A) (by rfl) (by rfl) ?_
  conv => whnf
  refine call_of [] (c) (by rfl) (by rfl) ?_
  conv => whnf
  exact end_of [] (by rfl) (by rfl) (by rfl) (by exact ⟨rfl, rfl⟩)

theorem c_uu_192 (A : Nat) (_ : A < 18446744073709551616) : Un 192 A (IntKind.u64.wrap (IntKind.u32.wrap (IntKind.i8.wrap ((A % 4294967296 : Nat) : Int)))) := by
  have k := c_un_192 (A : Int)
  rw [u32_nat] at k
  exact k

set_option maxRecDepth 100000 in
theorem c_ru_192 (A : Nat) (_ : A < 18446744073709551616) : SpecD S 25 [.int .i64 192, .int .u64 (A : Int)] [] (.int .u64 (IntKind.u64.wrap (IntKind.u32.wrap (IntKind.i8.wrap ((A % 4294967296 : Nat) : Int))))) [] := by
  have c := c_refName 192
  rw [r_192] at c
  refine specE ok sh25 rfl ?_
  conv => whnf
  refine call_of [] (c_bits_192) (by rfl) (by rfl) ?_
  conv => whnf
  refine call_of [] (c_rcN32 A) (by rfl) (by rfl) ?_
  conv => whnf
  refine call_of [] (c) (by rfl) (by rfl) ?_
  conv => whnf
  refine call_of [] (c_rsgW8 (A % 4294967296)) (by rfl) (by rfl) ?_
  conv => whnf
  refine call_of [] (c_rcut32 (IntKind.u64.wrap (IntKind.i8.wrap (((A % 4294967296) : Nat) : Int))) (u64_nonneg _)) (by rfl) (by rfl) ?_
  conv => whnf
  rw [uu]
  exact end_of [] (by rfl) (by rfl) (by rfl) (by exact ⟨rfl, rfl⟩)

theorem c_uu_193 (A : Nat) (_ : A < 18446744073709551616) : Un 193 A (IntKind.u64.wrap (IntKind.u32.wrap (IntKind.i16.wrap ((A % 4294967296 : Nat) : Int)))) := by
  have k := c_un_193 (A : Int)
  rw [u32_nat] at k
  exact k

set_option maxRecDepth 100000 in
theorem c_ru_193 (A : Nat) (_ : A < 18446744073709551616) : SpecD S 25 [.int .i64 193, .int .u64 (A : Int)] [] (.int .u64 (IntKind.u64.wrap (IntKind.u32.wrap (IntKind.i16.wrap ((A % 4294967296 : Nat) : Int))))) [] := by
  have c := c_refName 193
  rw [r_193] at c
  refine specE ok sh25 rfl ?_
  conv => whnf
  refine call_of [] (c_bits_193) (by rfl) (by rfl) ?_
  conv => whnf
  refine call_of [] (c_rcN32 A) (by rfl) (by rfl) ?_
  conv => whnf
  refine call_of [] (c) (by rfl) (by rfl) ?_
  conv => whnf
  refine call_of [] (c_rsgW16 (A % 4294967296)) (by rfl) (by rfl) ?_
  conv => whnf
  refine call_of [] (c_rcut32 (IntKind.u64.wrap (IntKind.i16.wrap (((A % 4294967296) : Nat) : Int))) (u64_nonneg _)) (by rfl) (by rfl) ?_
  conv => whnf
  rw [uu]
  exact end_of [] (by rfl) (by rfl) (by rfl) (by exact ⟨rfl, rfl⟩)

theorem c_uu_194 (A : Nat) (_ : A < 18446744073709551616) : Un 194 A (IntKind.u64.wrap (IntKind.i8.wrap (A : Int))) := by
  have k := c_un_194 (A : Int)
  exact k

set_option maxRecDepth 100000 in
theorem c_ru_194 (A : Nat) (_ : A < 18446744073709551616) : SpecD S 25 [.int .i64 194, .int .u64 (A : Int)] [] (.int .u64 (IntKind.u64.wrap (IntKind.i8.wrap (A : Int)))) [] := by
  have c := c_refName 194
  rw [r_194] at c
  refine specE ok sh25 rfl ?_
  conv => whnf
  refine call_of [] (c_bits_194) (by rfl) (by rfl) ?_
  conv => whnf
  refine call_of [] (c_rcN64 A) (by rfl) (by rfl) ?_
  conv => whnf
  refine call_of [] (c) (by rfl) (by rfl) ?_
  conv => whnf
  refine call_of [] (c_rsgW8 A) (by rfl) (by rfl) ?_
  conv => whnf
  refine call_of [] (c_rcut64 (IntKind.u64.wrap (IntKind.i8.wrap ((A : Nat) : Int)))) (by rfl) (by rfl) ?_
  conv => whnf
  exact end_of [] (by rfl) (by rfl) (by rfl) (by exact ⟨rfl, rfl⟩)

theorem c_uu_195 (A : Nat) (_ : A < 18446744073709551616) : Un 195 A (IntKind.u64.wrap (IntKind.i16.wrap (A : Int))) := by
  have k := c_un_195 (A : Int)
  exact k

set_option maxRecDepth 100000 in
theorem c_ru_195 (A : Nat) (_ : A < 18446744073709551616) : SpecD S 25 [.int .i64 195, .int .u64 (A : Int)] [] (.int .u64 (IntKind.u64.wrap (IntKind.i16.wrap (A : Int)))) [] := by
  have c := c_refName 195
  rw [r_195] at c
  refine specE ok sh25 rfl ?_
  conv => whnf
  refine call_of [] (c_bits_195) (by rfl) (by rfl) ?_
  conv => whnf
  refine call_of [] (c_rcN64 A) (by rfl) (by rfl) ?_
  conv => whnf
  refine call_of [] (c) (by rfl) (by rfl) ?_
  conv => whnf
  refine call_of [] (c_rsgW16 A) (by rfl) (by rfl) ?_
  conv => whnf
  refine call_of [] (c_rcut64 (IntKind.u64.wrap (IntKind.i16.wrap ((A : Nat) : Int)))) (by rfl) (by rfl) ?_
  conv => whnf
  exact end_of [] (by rfl) (by rfl) (by rfl) (by exact ⟨rfl, rfl⟩)

theorem c_uu_196 (A : Nat) (_ : A < 18446744073709551616) : Un 196 A (IntKind.u64.wrap (IntKind.i32.wrap (A : Int))) := by
  have k := c_un_196 (A : Int)
  exact k

set_option maxRecDepth 100000 in
theorem c_ru_196 (A : Nat) (_ : A < 18446744073709551616) : SpecD S 25 [.int .i64 196, .int .u64 (A : Int)] [] (.int .u64 (IntKind.u64.wrap (IntKind.i32.wrap (A : Int)))) [] := by
  have c := c_refName 196
  rw [r_196] at c
  refine specE ok sh25 rfl ?_
  conv => whnf
  refine call_of [] (c_bits_196) (by rfl) (by rfl) ?_
  conv => whnf
  refine call_of [] (c_rcN64 A) (by rfl) (by rfl) ?_
  conv => whnf
  refine call_of [] (c) (by rfl) (by rfl) ?_
  conv => whnf
  refine call_of [] (c_rsgW32 A) (by rfl) (by rfl) ?_
  conv => whnf
  refine call_of [] (c_rcut64 (IntKind.u64.wrap (IntKind.i32.wrap ((A : Nat) : Int)))) (by rfl) (by rfl) ?_
  conv => whnf
  exact end_of [] (by rfl) (by rfl) (by rfl) (by exact ⟨rfl, rfl⟩)

set_option maxRecDepth 100000 in
theorem c_ul {op a V : Int} (k0 : SpecD S 12 [.int .i64 op] [] (.int .i64 1) []) (k1 : Un op a V) (k2 : SpecD S 25 [.int .i64 op, .int .u64 a] [] (.int .u64 V) []) : SpecD S 8 [.int .i64 op, .int .u64 a] [] (.bool true) [] := by
  refine specE ok sh8 rfl ?_
  conv => whnf
  refine call_of [] (k1) (by rfl) (by rfl) ?_
  conv => whnf
  refine call_of [] (k0) (by rfl) (by rfl) ?_
  conv => whnf
  refine call_of [] (k2) (by rfl) (by rfl) ?_
  conv => whnf
  cases h2 : (V == V)
  · simp at h2
  conv => whnf
  exact end_of [] (by rfl) (by rfl) (by rfl) (by exact ⟨rfl, rfl⟩)

set_option maxRecDepth 100000 in
theorem c_ul0 {op a : Int} {n : ByteArray} {w : Bool} (k0 : SpecD S 12 [.int .i64 op] [] (.int .i64 0) []) (f : F2 op n w) (k : SpecD S 27 [.str n] [] (.int .i64 0) []) : SpecD S 8 [.int .i64 op, .int .u64 a] [] (.bool true) [] := by
  have k1 : SpecD S 24 [.int .i64 op, .int .u64 a] [] (.tup [.int .u64 0, .int .i64 1]) [] := by
    refine specE ok sh24 rfl ?_
    conv => whnf
    refine call_of [] (f) (by rfl) (by rfl) ?_
    conv => whnf
    refine call_of [] (k) (by rfl) (by rfl) ?_
    conv => whnf
    exact end_of [] (by rfl) (by rfl) (by rfl) (by exact ⟨rfl, rfl⟩)
  refine specE ok sh8 rfl ?_
  conv => whnf
  refine call_of [] (k1) (by rfl) (by rfl) ?_
  conv => whnf
  refine call_of [] (k0) (by rfl) (by rfl) ?_
  conv => whnf
  refine call_of [] (c_awake) (by rfl) (by rfl) ?_
  conv => whnf
  exact end_of [] (by rfl) (by rfl) (by rfl) (by exact ⟨rfl, rfl⟩)

set_option maxRecDepth 100000 in
theorem c_ul2 {op a : Int} {n : ByteArray} {w : Bool} (k0 : SpecD S 12 [.int .i64 op] [] (.int .i64 2) []) (f : F2 op n w) (k : SpecD S 27 [.str n] [] (.int .i64 2) []) : SpecD S 8 [.int .i64 op, .int .u64 a] [] (.bool true) [] := by
  have k1 : SpecD S 24 [.int .i64 op, .int .u64 a] [] (.tup [.int .u64 0, .int .i64 1]) [] := by
    refine specE ok sh24 rfl ?_
    conv => whnf
    refine call_of [] (f) (by rfl) (by rfl) ?_
    conv => whnf
    refine call_of [] (k) (by rfl) (by rfl) ?_
    conv => whnf
    exact end_of [] (by rfl) (by rfl) (by rfl) (by exact ⟨rfl, rfl⟩)
  refine specE ok sh8 rfl ?_
  conv => whnf
  refine call_of [] (k1) (by rfl) (by rfl) ?_
  conv => whnf
  refine call_of [] (k0) (by rfl) (by rfl) ?_
  conv => whnf
  refine call_of [] (c_awake) (by rfl) (by rfl) ?_
  conv => whnf
  exact end_of [] (by rfl) (by rfl) (by rfl) (by exact ⟨rfl, rfl⟩)

theorem c_unary (op : Int) (A : Nat) (hA : A < 18446744073709551616) : SpecD S 8 [.int .i64 op, .int .u64 (A : Int)] [] (.bool true) [] := by
  rcases op_cases op with h | h
  · obtain ⟨w, c⟩ := c_fd_none h
    exact c_ul0 (c_rar_ op h) c c_ar_
  · simp only [List.mem_cons, List.not_mem_nil, or_false] at h
    rcases h with rfl | rfl | rfl | rfl | rfl | rfl | rfl | rfl | rfl | rfl | rfl | rfl | rfl | rfl | rfl | rfl | rfl | rfl | rfl | rfl | rfl | rfl | rfl | rfl | rfl | rfl | rfl | rfl | rfl | rfl | rfl | rfl | rfl | rfl | rfl | rfl | rfl | rfl | rfl | rfl | rfl | rfl | rfl | rfl | rfl | rfl | rfl | rfl | rfl | rfl | rfl | rfl | rfl | rfl | rfl | rfl | rfl | rfl | rfl | rfl | rfl | rfl | rfl | rfl | rfl | rfl
    · exact c_ul (c_rar_eqz 69 r_69) (c_uu_69 A hA) (c_ru_69 A hA)
    · exact c_ul2 (c_rar_eq 70 r_70) f_70 c_ar_eq
    · exact c_ul2 (c_rar_ne 71 r_71) f_71 c_ar_ne
    · exact c_ul2 (c_rar_lt_s 72 r_72) f_72 c_ar_lt_s
    · exact c_ul2 (c_rar_lt_u 73 r_73) f_73 c_ar_lt_u
    · exact c_ul2 (c_rar_gt_s 74 r_74) f_74 c_ar_gt_s
    · exact c_ul2 (c_rar_gt_u 75 r_75) f_75 c_ar_gt_u
    · exact c_ul2 (c_rar_le_s 76 r_76) f_76 c_ar_le_s
    · exact c_ul2 (c_rar_le_u 77 r_77) f_77 c_ar_le_u
    · exact c_ul2 (c_rar_ge_s 78 r_78) f_78 c_ar_ge_s
    · exact c_ul2 (c_rar_ge_u 79 r_79) f_79 c_ar_ge_u
    · exact c_ul (c_rar_eqz 80 r_80) (c_uu_80 A hA) (c_ru_80 A hA)
    · exact c_ul2 (c_rar_eq 81 r_81) f_81 c_ar_eq
    · exact c_ul2 (c_rar_ne 82 r_82) f_82 c_ar_ne
    · exact c_ul2 (c_rar_lt_s 83 r_83) f_83 c_ar_lt_s
    · exact c_ul2 (c_rar_lt_u 84 r_84) f_84 c_ar_lt_u
    · exact c_ul2 (c_rar_gt_s 85 r_85) f_85 c_ar_gt_s
    · exact c_ul2 (c_rar_gt_u 86 r_86) f_86 c_ar_gt_u
    · exact c_ul2 (c_rar_le_s 87 r_87) f_87 c_ar_le_s
    · exact c_ul2 (c_rar_le_u 88 r_88) f_88 c_ar_le_u
    · exact c_ul2 (c_rar_ge_s 89 r_89) f_89 c_ar_ge_s
    · exact c_ul2 (c_rar_ge_u 90 r_90) f_90 c_ar_ge_u
    · exact c_ul (c_rar_clz 103 r_103) (c_uu_103 A hA) (c_ru_103 A hA)
    · exact c_ul (c_rar_ctz 104 r_104) (c_uu_104 A hA) (c_ru_104 A hA)
    · exact c_ul (c_rar_popcnt 105 r_105) (c_uu_105 A hA) (c_ru_105 A hA)
    · exact c_ul2 (c_rar_add 106 r_106) f_106 c_ar_add
    · exact c_ul2 (c_rar_sub 107 r_107) f_107 c_ar_sub
    · exact c_ul2 (c_rar_mul 108 r_108) f_108 c_ar_mul
    · exact c_ul2 (c_rar_div_s 109 r_109) f_109 c_ar_div_s
    · exact c_ul2 (c_rar_div_u 110 r_110) f_110 c_ar_div_u
    · exact c_ul2 (c_rar_rem_s 111 r_111) f_111 c_ar_rem_s
    · exact c_ul2 (c_rar_rem_u 112 r_112) f_112 c_ar_rem_u
    · exact c_ul2 (c_rar_and 113 r_113) f_113 c_ar_and
    · exact c_ul2 (c_rar_or 114 r_114) f_114 c_ar_or
    · exact c_ul2 (c_rar_xor 115 r_115) f_115 c_ar_xor
    · exact c_ul2 (c_rar_shl 116 r_116) f_116 c_ar_shl
    · exact c_ul2 (c_rar_shr_s 117 r_117) f_117 c_ar_shr_s
    · exact c_ul2 (c_rar_shr_u 118 r_118) f_118 c_ar_shr_u
    · exact c_ul2 (c_rar_rotl 119 r_119) f_119 c_ar_rotl
    · exact c_ul2 (c_rar_rotr 120 r_120) f_120 c_ar_rotr
    · exact c_ul (c_rar_clz 121 r_121) (c_uu_121 A hA) (c_ru_121 A hA)
    · exact c_ul (c_rar_ctz 122 r_122) (c_uu_122 A hA) (c_ru_122 A hA)
    · exact c_ul (c_rar_popcnt 123 r_123) (c_uu_123 A hA) (c_ru_123 A hA)
    · exact c_ul2 (c_rar_add 124 r_124) f_124 c_ar_add
    · exact c_ul2 (c_rar_sub 125 r_125) f_125 c_ar_sub
    · exact c_ul2 (c_rar_mul 126 r_126) f_126 c_ar_mul
    · exact c_ul2 (c_rar_div_s 127 r_127) f_127 c_ar_div_s
    · exact c_ul2 (c_rar_div_u 128 r_128) f_128 c_ar_div_u
    · exact c_ul2 (c_rar_rem_s 129 r_129) f_129 c_ar_rem_s
    · exact c_ul2 (c_rar_rem_u 130 r_130) f_130 c_ar_rem_u
    · exact c_ul2 (c_rar_and 131 r_131) f_131 c_ar_and
    · exact c_ul2 (c_rar_or 132 r_132) f_132 c_ar_or
    · exact c_ul2 (c_rar_xor 133 r_133) f_133 c_ar_xor
    · exact c_ul2 (c_rar_shl 134 r_134) f_134 c_ar_shl
    · exact c_ul2 (c_rar_shr_s 135 r_135) f_135 c_ar_shr_s
    · exact c_ul2 (c_rar_shr_u 136 r_136) f_136 c_ar_shr_u
    · exact c_ul2 (c_rar_rotl 137 r_137) f_137 c_ar_rotl
    · exact c_ul2 (c_rar_rotr 138 r_138) f_138 c_ar_rotr
    · exact c_ul (c_rar_wrap_i64 167 r_167) (c_uu_167 A hA) (c_ru_167 A hA)
    · exact c_ul (c_rar_extend_i32_s 172 r_172) (c_uu_172 A hA) (c_ru_172 A hA)
    · exact c_ul (c_rar_extend_i32_u 173 r_173) (c_uu_173 A hA) (c_ru_173 A hA)
    · exact c_ul (c_rar_extend8_s 192 r_192) (c_uu_192 A hA) (c_ru_192 A hA)
    · exact c_ul (c_rar_extend16_s 193 r_193) (c_uu_193 A hA) (c_ru_193 A hA)
    · exact c_ul (c_rar_extend8_s 194 r_194) (c_uu_194 A hA) (c_ru_194 A hA)
    · exact c_ul (c_rar_extend16_s 195 r_195) (c_uu_195 A hA) (c_ru_195 A hA)
    · exact c_ul (c_rar_extend32_s 196 r_196) (c_uu_196 A hA) (c_ru_196 A hA)

theorem c_inumUnary (op a : Int) (ha : 0 ≤ a ∧ a ≤ 18446744073709551615) : SpecD S 8 [.int .i64 op, .int .u64 a] [] (.bool true) [] := by
  obtain ⟨A, rfl⟩ := Int.eq_ofNat_of_zero_le ha.1
  exact c_unary op A (by omega)

end Sh
end Go.Proofs.YtoegodeglgeomaaDoor
