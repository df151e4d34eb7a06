/- A number is its quotient times the divisor and the rest: the numbers, and the law's contract. -/
import Derived.Test.YtoegodeglgeomaaDoorUDivLaw
import Derived.Test.YtoegodeglgeomaaDoorUOrd
namespace Go.Proofs.YtoegodeglgeomaaDoor
open Go
namespace Sh

theorem md_core {N t r X Y Q b M a : Int} (hq : Q % N = t % N) (hb : b % N = Y % N) (hM : M % N = r % N) (hXY : t * Y + r = X) (hX : X % N = a % N) : ((Q * b) % N + M) % N = a % N := by
  rw [Int.add_emod, Int.emod_emod, Int.mul_emod, hq, hb, hM, ← Int.mul_emod, ← Int.add_emod, hXY, hX]

theorem td_add (X Y : Int) : X.tdiv Y * Y + X.tmod Y = X := by
  have := Int.tmod_def X Y
  rw [this, Int.mul_comm]
  omega

theorem u64_mod (n : Int) : IntKind.u64.wrap n = n % 18446744073709551616 := by rw [IntKind.wrap_u64]
theorem c32_mod (n : Int) : IntKind.u64.wrap (IntKind.u32.wrap n) = n % 4294967296 := by rw [IntKind.wrap_u64, IntKind.wrap_u32]; omega
theorem c32_u64 (n : Int) : IntKind.u64.wrap (IntKind.u32.wrap (IntKind.u64.wrap n)) = n % 4294967296 := by rw [IntKind.wrap_u64, IntKind.wrap_u32, IntKind.wrap_u64]; omega
theorem i64_mod (n : Int) : IntKind.i64.wrap n % 18446744073709551616 = n % 18446744073709551616 := by rw [IntKind.wrap_i64]; omega
theorem ui64_mod (n : Int) : IntKind.u64.wrap (IntKind.i64.wrap n) % 18446744073709551616 = n % 18446744073709551616 := by rw [IntKind.wrap_u64, IntKind.wrap_i64]; omega
theorem u64_mod' (n : Int) : IntKind.u64.wrap n % 18446744073709551616 = n % 18446744073709551616 := by rw [IntKind.wrap_u64]; omega
theorem x32_mod (n : Int) : IntKind.i64.wrap (IntKind.i32.wrap (IntKind.u64.wrap (IntKind.u32.wrap n))) % 4294967296 = n % 4294967296 := by rw [IntKind.wrap_i64, IntKind.wrap_i32, IntKind.wrap_u64, IntKind.wrap_u32]; omega
theorem q32_mod (n : Int) : IntKind.u64.wrap (IntKind.u32.wrap (IntKind.u64.wrap (IntKind.i64.wrap n))) = n % 4294967296 := by rw [IntKind.wrap_u64, IntKind.wrap_u32, IntKind.wrap_u64, IntKind.wrap_i64]; omega

theorem tmod_m1 (X : Int) : X.tmod (-1) = 0 := by rw [Int.tmod_neg, Int.tmod_one]

/-- Back from quotient and rest, of 64 bits. -/
theorem back64 {a b t r X Y Q M : Int} (ha : 0 ≤ a ∧ a ≤ 18446744073709551615) (hq : Q % 18446744073709551616 = t % 18446744073709551616) (hb : b % 18446744073709551616 = Y % 18446744073709551616) (hM : M % 18446744073709551616 = r % 18446744073709551616)
    (hXY : t * Y + r = X) (hX : X % 18446744073709551616 = a % 18446744073709551616) : Two true 5 Q b (IntKind.u64.wrap (Q * b)) 0 ∧ Two true 3 (IntKind.u64.wrap (Q * b)) M a 0 := by
  refine ⟨c_two_64_5_0 Q b _ (c_bin_mul_64 Q b), ?_⟩
  have h := c_two_64_3_0 (IntKind.u64.wrap (Q * b)) M _ (c_bin_add_64 (IntKind.u64.wrap (Q * b)) M)
  have e : IntKind.u64.wrap (IntKind.u64.wrap (Q * b) + M) = a := by
    rw [u64_mod, u64_mod, md_core hq hb hM hXY hX]
    omega
  rw [e] at h
  exact h

/-- Back from quotient and rest, of 32 bits. -/
theorem back32 {a b t r X Y Q M : Int} (hq : Q % 4294967296 = t % 4294967296) (hb : b % 4294967296 = Y % 4294967296) (hM : M % 4294967296 = r % 4294967296) (hXY : t * Y + r = X) (hX : X % 4294967296 = a % 4294967296) :
    ∃ P, Two false 5 Q b P 0 ∧ Two false 3 P M (IntKind.u64.wrap (IntKind.u32.wrap a)) 0 := by
  refine ⟨_, c_two_32_5_0 Q b _ (c_bin_mul_32 Q b), ?_⟩
  rw [c32_u64, c32_mod Q, c32_mod b]
  have h := c_two_32_3_0 (Q % 4294967296 * (b % 4294967296) % 4294967296) M _ (c_bin_add_32 (Q % 4294967296 * (b % 4294967296) % 4294967296) M)
  have e : IntKind.u64.wrap (IntKind.u32.wrap (IntKind.u64.wrap (IntKind.u64.wrap (IntKind.u32.wrap (Q % 4294967296 * (b % 4294967296) % 4294967296)) + IntKind.u64.wrap (IntKind.u32.wrap M)))) = IntKind.u64.wrap (IntKind.u32.wrap a) := by
    rw [c32_u64, c32_mod, c32_mod, c32_mod]
    have := md_core hq hb hM hXY hX
    rw [← Int.mul_emod, Int.emod_emod, Int.add_emod, Int.emod_emod, Int.emod_emod, ← Int.add_emod]
    rw [← this]
    rw [Int.add_emod ((Q * b) % 4294967296), Int.emod_emod, ← Int.add_emod]
  rw [e] at h
  exact h

theorem rd64_1 {a b : Int} (ha : 0 ≤ a ∧ a ≤ 18446744073709551615) : Rd true a b a b 1 := by
  by_cases h : b = 0
  · exact .inl ⟨h, c_two_64_7_30 a b 0 (c_bin_div_u_64_z a b (by simp [h])), c_two_64_9_30 a b 0 (c_bin_rem_u_64_z a b (by simp [h]))⟩
  · have hb : (b == 0) = false := by simpa using h
    have k := back64 (b := b) (t := a.tdiv b) (r := a.tmod b) (X := a) (Y := b) (Q := IntKind.u64.wrap (a.tdiv b)) (M := a.tmod b) ha (u64_mod' _) rfl rfl (td_add a b) rfl
    exact .inr (.inr ⟨h, _, _, _, c_two_64_7_0 a b _ (c_bin_div_u_64_k a b hb), c_two_64_9_0 a b _ (c_bin_rem_u_64_k a b hb), k.1, k.2⟩)

theorem rd64_0 {a b : Int} (ha : 0 ≤ a ∧ a ≤ 18446744073709551615) (hbr : 0 ≤ b ∧ b ≤ 18446744073709551615) : Rd true a b a b 0 := by
  by_cases h : b = 0
  · exact .inl ⟨h, c_two_64_6_30 a b 0 (c_bin_div_s_64_z a b (by simp [h])), c_two_64_8_30 a b 0 (c_bin_rem_s_64_z a b (by simp [h]))⟩
  · have hb : (b == 0) = false := by simpa using h
    have hy : IntKind.i64.wrap b ≠ 0 := fun e => h (inj64 hbr (by omega) (e.trans (by decide)))
    have k := fun M hM => back64 (b := b) (t := (IntKind.i64.wrap a).tdiv (IntKind.i64.wrap b)) (r := (IntKind.i64.wrap a).tmod (IntKind.i64.wrap b)) (X := IntKind.i64.wrap a) (Y := IntKind.i64.wrap b)
      (Q := IntKind.u64.wrap (IntKind.i64.wrap ((IntKind.i64.wrap a).tdiv (IntKind.i64.wrap b)))) (M := M) ha (ui64_mod _) (i64_mod b).symm hM (td_add _ _) (i64_mod a)
    by_cases h1 : IntKind.i64.wrap b = -1
    · have e1 : (IntKind.i64.wrap b == -1) = true := by simp [h1]
      have e1' : (IntKind.i64.wrap b != -1) = false := by simp [h1]
      by_cases h2 : IntKind.i64.wrap a = -9223372036854775808
      · exact .inr (.inl ⟨h, rfl, c_two_64_6_31 a b 0 (c_bin_div_s_64_o a b hb e1 (by simp [h2])), c_two_64_8_0 a b 0 (c_bin_rem_s_64_m a b hb e1')⟩)
      · have k' := k 0 (by rw [h1, tmod_m1])
        exact .inr (.inr ⟨h, _, _, _, c_two_64_6_0 a b _ (c_bin_div_s_64_k2 a b hb e1 (by simpa using h2) hy), c_two_64_8_0 a b 0 (c_bin_rem_s_64_m a b hb e1'), k'.1, k'.2⟩)
    · have e1 : (IntKind.i64.wrap b == -1) = false := by simpa using h1
      have e1' : (IntKind.i64.wrap b != -1) = true := by simpa using h1
      have k' := k (IntKind.u64.wrap ((IntKind.i64.wrap a).tmod (IntKind.i64.wrap b))) (u64_mod' _)
      exact .inr (.inr ⟨h, _, _, _, c_two_64_6_0 a b _ (c_bin_div_s_64_k1 a b hb e1 hy), c_two_64_8_0 a b _ (c_bin_rem_s_64_k a b hb e1' hy), k'.1, k'.2⟩)

theorem rd32_1 (a b : Int) : Rd false a b (IntKind.u64.wrap (IntKind.u32.wrap a)) (IntKind.u64.wrap (IntKind.u32.wrap b)) 1 := by
  by_cases h : IntKind.u64.wrap (IntKind.u32.wrap b) = 0
  · exact .inl ⟨h, c_two_32_7_30 a b 0 (c_bin_div_u_32_z a b (by simp [h])), c_two_32_9_30 a b 0 (c_bin_rem_u_32_z a b (by simp [h]))⟩
  · have hb : (IntKind.u64.wrap (IntKind.u32.wrap b) == 0) = false := by simpa using h
    obtain ⟨P, k1, k2⟩ := back32 (a := a) (b := b) (t := (IntKind.u64.wrap (IntKind.u32.wrap a)).tdiv (IntKind.u64.wrap (IntKind.u32.wrap b))) (r := (IntKind.u64.wrap (IntKind.u32.wrap a)).tmod (IntKind.u64.wrap (IntKind.u32.wrap b)))
      (X := IntKind.u64.wrap (IntKind.u32.wrap a)) (Y := IntKind.u64.wrap (IntKind.u32.wrap b)) (Q := IntKind.u64.wrap (IntKind.u32.wrap (IntKind.u64.wrap ((IntKind.u64.wrap (IntKind.u32.wrap a)).tdiv (IntKind.u64.wrap (IntKind.u32.wrap b))))))
      (M := IntKind.u64.wrap (IntKind.u32.wrap ((IntKind.u64.wrap (IntKind.u32.wrap a)).tmod (IntKind.u64.wrap (IntKind.u32.wrap b))))) (by rw [c32_u64, Int.emod_emod]) (by rw [c32_mod, Int.emod_emod]) (by rw [c32_mod, Int.emod_emod]) (td_add _ _) (by rw [c32_mod, Int.emod_emod])
    exact .inr (.inr ⟨h, _, _, P, c_two_32_7_0 a b _ (c_bin_div_u_32_k a b hb), c_two_32_9_0 a b _ (c_bin_rem_u_32_k a b hb), k1, k2⟩)

theorem rd32_0 (a b : Int) : Rd false a b (IntKind.u64.wrap (IntKind.u32.wrap a)) (IntKind.u64.wrap (IntKind.u32.wrap b)) 0 := by
  have lb := low32 b
  by_cases h : IntKind.u64.wrap (IntKind.u32.wrap b) = 0
  · exact .inl ⟨h, c_two_32_6_30 a b 0 (c_bin_div_s_32_z a b (by simp [h])), c_two_32_8_30 a b 0 (c_bin_rem_s_32_z a b (by simp [h]))⟩
  · have hb : (IntKind.u64.wrap (IntKind.u32.wrap b) == 0) = false := by simpa using h
    have hy : IntKind.i64.wrap (IntKind.i32.wrap (IntKind.u64.wrap (IntKind.u32.wrap b))) ≠ 0 := fun e => h (inj32 lb (by omega) (e.trans (by decide)))
    have k := fun M hM => back32 (a := a) (b := b) (t := (IntKind.i64.wrap (IntKind.i32.wrap (IntKind.u64.wrap (IntKind.u32.wrap a)))).tdiv (IntKind.i64.wrap (IntKind.i32.wrap (IntKind.u64.wrap (IntKind.u32.wrap b)))))
      (r := (IntKind.i64.wrap (IntKind.i32.wrap (IntKind.u64.wrap (IntKind.u32.wrap a)))).tmod (IntKind.i64.wrap (IntKind.i32.wrap (IntKind.u64.wrap (IntKind.u32.wrap b)))))
      (X := IntKind.i64.wrap (IntKind.i32.wrap (IntKind.u64.wrap (IntKind.u32.wrap a)))) (Y := IntKind.i64.wrap (IntKind.i32.wrap (IntKind.u64.wrap (IntKind.u32.wrap b))))
      (Q := IntKind.u64.wrap (IntKind.u32.wrap (IntKind.u64.wrap (IntKind.i64.wrap ((IntKind.i64.wrap (IntKind.i32.wrap (IntKind.u64.wrap (IntKind.u32.wrap a)))).tdiv (IntKind.i64.wrap (IntKind.i32.wrap (IntKind.u64.wrap (IntKind.u32.wrap b)))))))))
      (M := M) (by rw [q32_mod, Int.emod_emod]) (x32_mod b).symm hM (td_add _ _) (x32_mod a)
    by_cases h1 : IntKind.i64.wrap (IntKind.i32.wrap (IntKind.u64.wrap (IntKind.u32.wrap b))) = -1
    · have e1 : (IntKind.i64.wrap (IntKind.i32.wrap (IntKind.u64.wrap (IntKind.u32.wrap b))) == -1) = true := by simp [h1]
      have e1' : (IntKind.i64.wrap (IntKind.i32.wrap (IntKind.u64.wrap (IntKind.u32.wrap b))) != -1) = false := by simp [h1]
      by_cases h2 : IntKind.i64.wrap (IntKind.i32.wrap (IntKind.u64.wrap (IntKind.u32.wrap a))) = -2147483648
      · exact .inr (.inl ⟨h, rfl, c_two_32_6_31 a b 0 (c_bin_div_s_32_o a b hb e1 (by simp [h2])), c_two_32_8_0 a b 0 (c_bin_rem_s_32_m a b hb e1')⟩)
      · obtain ⟨P, k1, k2⟩ := k 0 (by rw [h1, tmod_m1])
        exact .inr (.inr ⟨h, _, _, P, c_two_32_6_0 a b _ (c_bin_div_s_32_k2 a b hb e1 (by simpa using h2) hy), c_two_32_8_0 a b 0 (c_bin_rem_s_32_m a b hb e1'), k1, k2⟩)
    · have e1 : (IntKind.i64.wrap (IntKind.i32.wrap (IntKind.u64.wrap (IntKind.u32.wrap b))) == -1) = false := by simpa using h1
      have e1' : (IntKind.i64.wrap (IntKind.i32.wrap (IntKind.u64.wrap (IntKind.u32.wrap b))) != -1) = true := by simpa using h1
      obtain ⟨P, k1, k2⟩ := k (IntKind.u64.wrap (IntKind.u32.wrap (IntKind.u64.wrap ((IntKind.i64.wrap (IntKind.i32.wrap (IntKind.u64.wrap (IntKind.u32.wrap a)))).tmod (IntKind.i64.wrap (IntKind.i32.wrap (IntKind.u64.wrap (IntKind.u32.wrap b)))))))) (by rw [c32_u64, Int.emod_emod])
      exact .inr (.inr ⟨h, _, _, P, c_two_32_6_0 a b _ (c_bin_div_s_32_k1 a b hb e1 hy), c_two_32_8_0 a b _ (c_bin_rem_s_32_k a b hb e1' hy), k1, k2⟩)

theorem c_divides (wide : Bool) (a b : Int) (ha : 0 ≤ a ∧ a ≤ 18446744073709551615) (hb : 0 ≤ b ∧ b ≤ 18446744073709551615) : SpecD S 5 [.bool wide, .int .u64 a, .int .u64 b] [] (.bool true) [] := by
  cases wide
  · refine c_div_law false a b _ _ (c_cut_32 a ha.1) (c_cut_32 b hb.1) fun j hj => ?_
    rcases j with _ | _ | j
    · exact rd32_0 a b
    · exact rd32_1 a b
    · omega
  · refine c_div_law true a b _ _ (c_cut_64 a) (c_cut_64 b) fun j hj => ?_
    rcases j with _ | _ | j
    · exact rd64_0 ha hb
    · exact rd64_1 ha
    · omega

end Sh
end Go.Proofs.YtoegodeglgeomaaDoor
