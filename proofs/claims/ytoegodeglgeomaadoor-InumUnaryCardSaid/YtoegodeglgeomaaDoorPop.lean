/- Set bits: counted by sums in bytes; turned round. -/
import Derived.Shelf.Spec.TrailingZeros
namespace Go.Proofs.YtoegodeglgeomaaDoor
namespace PopT
/-- set bits among the lowest -/
def popc : Nat → Nat → Nat
  | 0, _ => 0
  | k + 1, a => a % 2 + popc k (a / 2)

theorem popc_add (j k x y : Nat) (h : x < 2 ^ j) : popc (j + k) (x + 2 ^ j * y) = popc j x + popc k y := by
  induction j generalizing x with
  | zero => obtain rfl : x = 0 := by simpa using h
            simp [popc]
  | succ j ih =>
    have hp : 2 ^ (j + 1) = 2 * 2 ^ j := by rw [Nat.pow_succ]; omega
    rw [show j + 1 + k = (j + k) + 1 by omega, popc, popc, hp, Nat.mul_assoc]
    have e1 : (x + 2 * (2 ^ j * y)) / 2 = x / 2 + 2 ^ j * y := by omega
    have e2 : (x + 2 * (2 ^ j * y)) % 2 = x % 2 := by omega
    rw [e1, e2, ih (x / 2) (by omega)]; omega

theorem popc_le (k a : Nat) : popc k a ≤ k := by
  induction k generalizing a with
  | zero => simp [popc]
  | succ k ih => have := ih (a / 2); simp only [popc]; omega

theorem popc_split (j k a : Nat) : popc (j + k) a = popc j (a % 2 ^ j) + popc k (a / 2 ^ j) := by
  have h := popc_add j k (a % 2 ^ j) (a / 2 ^ j) (Nat.mod_lt _ (Nat.two_pow_pos j))
  rw [Nat.mod_add_div] at h
  exact h

/-- turned to the left by b of k bits -/
def rolL (k a b : Nat) : Nat := (a % 2 ^ (k - b)) * 2 ^ b + a / 2 ^ (k - b)

theorem rolL_lt {k a b : Nat} (hb : b ≤ k) (ha : a < 2 ^ k) : rolL k a b < 2 ^ k := by
  have h1 : a / 2 ^ (k - b) < 2 ^ b := Nat.div_lt_of_lt_mul (by rw [← Nat.pow_add, show k - b + b = k by omega]; exact ha)
  have h2 : a % 2 ^ (k - b) < 2 ^ (k - b) := Nat.mod_lt _ (Nat.two_pow_pos _)
  have h3 : (a % 2 ^ (k - b) + 1) * 2 ^ b ≤ 2 ^ (k - b) * 2 ^ b := Nat.mul_le_mul_right _ h2
  rw [← Nat.pow_add, show k - b + b = k by omega, Nat.add_mul] at h3
  unfold rolL; omega

theorem popc_rol {k a b : Nat} (hb : b ≤ k) (ha : a < 2 ^ k) : popc k (rolL k a b) = popc k a := by
  have h1 : a / 2 ^ (k - b) < 2 ^ b := Nat.div_lt_of_lt_mul (by rw [← Nat.pow_add, show k - b + b = k by omega]; exact ha)
  have e := popc_add b (k - b) (a / 2 ^ (k - b)) (a % 2 ^ (k - b)) h1
  have e2 := popc_split (k - b) b a
  rw [show b + (k - b) = k by omega] at e
  rw [show k - b + b = k by omega] at e2
  unfold rolL
  rw [Nat.add_comm, Nat.mul_comm, e, e2]; omega

theorem rol_back {k a b : Nat} (hb : b ≤ k) (ha : a < 2 ^ k) : rolL k (rolL k a b) (k - b) = a := by
  have h1 : a / 2 ^ (k - b) < 2 ^ b := Nat.div_lt_of_lt_mul (by rw [← Nat.pow_add, show k - b + b = k by omega]; exact ha)
  unfold rolL
  rw [show k - (k - b) = b by omega, Nat.add_comm ((a % 2 ^ (k - b)) * 2 ^ b), Nat.add_mul_mod_self_right, Nat.mod_eq_of_lt h1, Nat.add_mul_div_right _ _ (Nat.two_pow_pos b), Nat.div_eq_of_lt h1, Nat.zero_add, Nat.mul_comm]
  have := Nat.div_add_mod a (2 ^ (k - b))
  omega

/-- n bytes m -/
def W (m : Nat) : Nat → Nat
  | 0 => 0
  | n + 1 => m + 256 * W m n

theorem and_split (x y : Nat) : x &&& y = (x % 256 &&& y % 256) + 256 * (x / 256 &&& y / 256) := by
  have h1 : (x &&& y) % 2 ^ 8 = x % 2 ^ 8 &&& y % 2 ^ 8 := Nat.and_mod_two_pow
  have h2 : (x &&& y) / 2 ^ 8 = x / 2 ^ 8 &&& y / 2 ^ 8 := Nat.and_div_two_pow
  have := Nat.mod_add_div (x &&& y) 256
  rw [show (2 : Nat) ^ 8 = 256 by rfl] at h1 h2
  rw [← h1, ← h2]; omega

theorem and_low (x j m : Nat) (hm : m < 2 ^ j) : x &&& m = (x % 2 ^ j) &&& m := by
  have h1 : (x &&& m) % 2 ^ j = x % 2 ^ j &&& m % 2 ^ j := Nat.and_mod_two_pow
  rw [Nat.mod_eq_of_lt hm] at h1
  rw [← h1, Nat.mod_eq_of_lt (Nat.lt_of_le_of_lt Nat.and_le_right hm)]

theorem and_W (x m n : Nat) (hm : m < 256) : x &&& W m (n + 1) = (x % 256 &&& m) + 256 * (x / 256 &&& W m n) := by
  rw [and_split, W, show (m + 256 * W m n) % 256 = m by omega, show (m + 256 * W m n) / 256 = W m n by omega]

/-- a step in each byte -/
def by8 (f : Nat → Nat) : Nat → Nat → Nat
  | 0, _ => 0
  | n + 1, x => f (x % 256) + 256 * by8 f n (x / 256)

def g1 (b : Nat) : Nat := (b / 2 &&& 85) + (b &&& 85)
def g2 (b : Nat) : Nat := (b / 4 &&& 51) + (b &&& 51)
def g3 (b : Nat) : Nat := (b / 16 + b) &&& 15

theorem st1 (n x : Nat) : (x / 2 &&& W 85 n) + (x &&& W 85 n) = by8 g1 n x := by
  induction n generalizing x with
  | zero => simp [W, by8]
  | succ n ih =>
    rw [by8, ← ih, and_W _ _ _ (by decide), and_W x _ _ (by decide), g1, and_low (x / 2 % 256) 7 85 (by decide), and_low (x % 256 / 2) 7 85 (by decide), show x / 2 % 256 % 2 ^ 7 = x % 256 / 2 % 2 ^ 7 by omega, show x / 2 / 256 = x / 256 / 2 by omega]
    omega
theorem st2 (n x : Nat) : (x / 4 &&& W 51 n) + (x &&& W 51 n) = by8 g2 n x := by
  induction n generalizing x with
  | zero => simp [W, by8]
  | succ n ih =>
    rw [by8, ← ih, and_W _ _ _ (by decide), and_W x _ _ (by decide), g2, and_low (x / 4 % 256) 6 51 (by decide), and_low (x % 256 / 4) 6 51 (by decide), show x / 4 % 256 % 2 ^ 6 = x % 256 / 4 % 2 ^ 6 by omega, show x / 4 / 256 = x / 256 / 4 by omega]
    omega

/-- every byte is small in each half -/
def nib : Nat → Nat → Prop
  | 0, _ => True
  | n + 1, x => x % 16 ≤ 4 ∧ x % 256 / 16 ≤ 4 ∧ nib n (x / 256)

theorem st3 (n x : Nat) (h : nib n x) (hx : x < 256 ^ n) : (x / 16 + x) &&& W 15 n = by8 g3 n x := by
  induction n generalizing x with
  | zero => simp [W, by8]
  | succ n ih =>
    obtain ⟨h1, h2, h3⟩ := h
    have hp : 256 ^ (n + 1) = 256 * 256 ^ n := by rw [Nat.pow_succ]; omega
    have h4 : x / 256 % 16 ≤ 4 := by
      cases n with
      | zero => rw [Nat.pow_succ] at hx; omega
      | succ n => exact h3.1
    rw [by8, ← ih _ h3 (by omega), and_W _ _ _ (by decide), g3, and_low ((x / 16 + x) % 256) 4 15 (by decide), and_low (x % 256 / 16 + x % 256) 4 15 (by decide), show (x / 16 + x) % 256 % 2 ^ 4 = (x % 256 / 16 + x % 256) % 2 ^ 4 by omega, show (x / 16 + x) / 256 = x / 256 / 16 + x / 256 by omega]

theorem f256 {p : Nat → Bool} (h : (List.range 256).all p = true) (b : Nat) (hb : b < 256) : p b = true := List.all_eq_true.1 h b (by simpa using hb)

theorem by8_lt {f : Nat → Nat} (hf : ∀ b, b < 256 → f b < 256) (n x : Nat) : by8 f n x < 256 ^ n := by
  induction n generalizing x with
  | zero => simp [by8]
  | succ n ih =>
    have := ih (x / 256)
    have := hf (x % 256) (Nat.mod_lt _ (by decide))
    rw [by8, Nat.pow_succ]; omega

theorem by8_by8 {f g : Nat → Nat} (hf : ∀ b, b < 256 → f b < 256) (n x : Nat) : by8 g n (by8 f n x) = by8 (fun b => g (f b)) n x := by
  induction n generalizing x with
  | zero => rfl
  | succ n ih =>
    have := hf (x % 256) (Nat.mod_lt _ (by decide))
    rw [by8, by8, by8, show (f (x % 256) + 256 * by8 f n (x / 256)) % 256 = f (x % 256) by omega, show (f (x % 256) + 256 * by8 f n (x / 256)) / 256 = by8 f n (x / 256) by omega, ih]

theorem g1_lt (b : Nat) (hb : b < 256) : g1 b < 256 := of_decide_eq_true (f256 (p := fun b => decide (g1 b < 256)) (by decide +kernel) b hb)
theorem g2_lt (b : Nat) (hb : b < 256) : g2 b < 256 := of_decide_eq_true (f256 (p := fun b => decide (g2 b < 256)) (by decide +kernel) b hb)
theorem g12_nib (b : Nat) (hb : b < 256) : g2 (g1 b) % 16 ≤ 4 ∧ g2 (g1 b) % 256 / 16 ≤ 4 := of_decide_eq_true (f256 (p := fun b => decide (g2 (g1 b) % 16 ≤ 4 ∧ g2 (g1 b) % 256 / 16 ≤ 4)) (by decide +kernel) b hb)
theorem g123 (b : Nat) (hb : b < 256) : g3 (g2 (g1 b)) = popc 8 b := of_decide_eq_true (f256 (p := fun b => decide (g3 (g2 (g1 b)) = popc 8 b)) (by decide +kernel) b hb)

theorem nib_12 (n x : Nat) : nib n (by8 (fun b => g2 (g1 b)) n x) := by
  induction n generalizing x with
  | zero => trivial
  | succ n ih =>
    have h1 := g12_nib (x % 256) (Nat.mod_lt _ (by decide))
    have h2 := g2_lt (g1 (x % 256)) (g1_lt _ (Nat.mod_lt _ (by decide)))
    rw [by8, nib]
    refine ⟨by omega, by omega, ?_⟩
    rw [show (g2 (g1 (x % 256)) + 256 * by8 (fun b => g2 (g1 b)) n (x / 256)) / 256 = by8 (fun b => g2 (g1 b)) n (x / 256) by omega]
    exact ih _

theorem by8_popc (n x : Nat) : by8 (fun b => g3 (g2 (g1 b))) n x = by8 (popc 8) n x := by
  induction n generalizing x with
  | zero => rfl
  | succ n ih => rw [by8, by8, ih]; simp only [g123 _ (Nat.mod_lt x (by decide : 0 < 256))]

/-- the first three steps -/
theorem steps (n x y z : Nat) (hy : y = (x / 2 &&& W 85 n) + (x &&& W 85 n)) (hz : z = (y / 4 &&& W 51 n) + (y &&& W 51 n)) : (z / 16 + z) &&& W 15 n = by8 (popc 8) n x := by
  rw [st1] at hy
  subst hy
  rw [st2, by8_by8 g1_lt] at hz
  subst hz
  rw [st3 _ _ (nib_12 n x) (by8_lt (fun b hb => g2_lt _ (g1_lt b hb)) n x), by8_by8 (fun b hb => g2_lt _ (g1_lt b hb)), by8_popc]

theorem sum64 (x z z1 z2 z3 : Nat) (hz : z = by8 (popc 8) 8 x) (h1 : z1 = z + z / 256) (h2 : z2 = z1 + z1 / 65536) (h3 : z3 = z2 + z2 / 4294967296) : z3 % 128 = popc 64 x ∧ z3 < 2 ^ 64 := by
  have e0 := popc_split 8 56 x
  have l0 := popc_le 8 (x % 256)
  have e1 := popc_split 8 48 (x / 256)
  have l1 := popc_le 8 ((x / 256) % 256)
  have e2 := popc_split 8 40 ((x / 256) / 256)
  have l2 := popc_le 8 (((x / 256) / 256) % 256)
  have e3 := popc_split 8 32 (((x / 256) / 256) / 256)
  have l3 := popc_le 8 ((((x / 256) / 256) / 256) % 256)
  have e4 := popc_split 8 24 ((((x / 256) / 256) / 256) / 256)
  have l4 := popc_le 8 (((((x / 256) / 256) / 256) / 256) % 256)
  have e5 := popc_split 8 16 (((((x / 256) / 256) / 256) / 256) / 256)
  have l5 := popc_le 8 ((((((x / 256) / 256) / 256) / 256) / 256) % 256)
  have e6 := popc_split 8 8 ((((((x / 256) / 256) / 256) / 256) / 256) / 256)
  have l6 := popc_le 8 (((((((x / 256) / 256) / 256) / 256) / 256) / 256) % 256)
  have e7 := popc_split 8 0 (((((((x / 256) / 256) / 256) / 256) / 256) / 256) / 256)
  have l7 := popc_le 8 ((((((((x / 256) / 256) / 256) / 256) / 256) / 256) / 256) % 256)
  simp only [by8] at hz
  simp only [show 8 + 56 = 64 by rfl, show 8 + 48 = 56 by rfl, show 8 + 40 = 48 by rfl, show 8 + 32 = 40 by rfl, show 8 + 24 = 32 by rfl, show 8 + 16 = 24 by rfl, show 8 + 8 = 16 by rfl, show 8 + 0 = 8 by rfl, show (2 : Nat) ^ 8 = 256 by rfl, popc.eq_1] at e0 e1 e2 e3 e4 e5 e6 e7
  generalize popc 8 (x % 256) = p0 at *
  generalize popc 8 ((x / 256) % 256) = p1 at *
  generalize popc 8 (((x / 256) / 256) % 256) = p2 at *
  generalize popc 8 ((((x / 256) / 256) / 256) % 256) = p3 at *
  generalize popc 8 (((((x / 256) / 256) / 256) / 256) % 256) = p4 at *
  generalize popc 8 ((((((x / 256) / 256) / 256) / 256) / 256) % 256) = p5 at *
  generalize popc 8 (((((((x / 256) / 256) / 256) / 256) / 256) / 256) % 256) = p6 at *
  generalize popc 8 ((((((((x / 256) / 256) / 256) / 256) / 256) / 256) / 256) % 256) = p7 at *
  have t : popc 64 x = p0 + p1 + p2 + p3 + p4 + p5 + p6 + p7 := by omega
  have a0 : z / 256 = p1 + 256 * (p2 + 256 * (p3 + 256 * (p4 + 256 * (p5 + 256 * (p6 + 256 * (p7 + 256 * (0))))))) := by omega
  have b1 : z1 = (p0 + p1) + 256 * ((p1 + p2) + 256 * ((p2 + p3) + 256 * ((p3 + p4) + 256 * ((p4 + p5) + 256 * ((p5 + p6) + 256 * ((p6 + p7) + 256 * ((p7) + 256 * (0)))))))) := by omega
  have a1 : z1 / 65536 = (p2 + p3) + 256 * ((p3 + p4) + 256 * ((p4 + p5) + 256 * ((p5 + p6) + 256 * ((p6 + p7) + 256 * ((p7) + 256 * (0)))))) := by clear hz a0 h1; omega
  have b2 : z2 = ((p0 + p1) + (p2 + p3)) + 256 * (((p1 + p2) + (p3 + p4)) + 256 * (((p2 + p3) + (p4 + p5)) + 256 * (((p3 + p4) + (p5 + p6)) + 256 * (((p4 + p5) + (p6 + p7)) + 256 * (((p5 + p6) + (p7)) + 256 * (((p6 + p7)) + 256 * (((p7)) + 256 * (0)))))))) := by omega
  have a2 : z2 / 4294967296 = ((p4 + p5) + (p6 + p7)) + 256 * (((p5 + p6) + (p7)) + 256 * (((p6 + p7)) + 256 * (((p7)) + 256 * (0)))) := by clear hz a0 h1 b1 a1 h2; omega
  have b3 : z3 = (((p0 + p1) + (p2 + p3)) + ((p4 + p5) + (p6 + p7))) + 256 * ((((p1 + p2) + (p3 + p4)) + ((p5 + p6) + (p7))) + 256 * ((((p2 + p3) + (p4 + p5)) + ((p6 + p7))) + 256 * ((((p3 + p4) + (p5 + p6)) + ((p7))) + 256 * ((((p4 + p5) + (p6 + p7))) + 256 * ((((p5 + p6) + (p7))) + 256 * ((((p6 + p7))) + 256 * ((((p7))) + 256 * (0)))))))) := by omega
  clear hz a0 h1 b1 a1 h2 a2 b2 h3; rw [t, b3]; constructor <;> omega

theorem sum32 (x z z1 z2 : Nat) (hz : z = by8 (popc 8) 4 x) (h1 : z1 = z + z / 256) (h2 : z2 = z1 + z1 / 65536) : z2 % 64 = popc 32 x ∧ z2 < 2 ^ 32 := by
  have e0 := popc_split 8 24 x
  have l0 := popc_le 8 (x % 256)
  have e1 := popc_split 8 16 (x / 256)
  have l1 := popc_le 8 ((x / 256) % 256)
  have e2 := popc_split 8 8 ((x / 256) / 256)
  have l2 := popc_le 8 (((x / 256) / 256) % 256)
  have e3 := popc_split 8 0 (((x / 256) / 256) / 256)
  have l3 := popc_le 8 ((((x / 256) / 256) / 256) % 256)
  simp only [by8] at hz
  simp only [show 8 + 24 = 32 by rfl, show 8 + 16 = 24 by rfl, show 8 + 8 = 16 by rfl, show 8 + 0 = 8 by rfl, show (2 : Nat) ^ 8 = 256 by rfl, popc.eq_1] at e0 e1 e2 e3
  generalize popc 8 (x % 256) = p0 at *
  generalize popc 8 ((x / 256) % 256) = p1 at *
  generalize popc 8 (((x / 256) / 256) % 256) = p2 at *
  generalize popc 8 ((((x / 256) / 256) / 256) % 256) = p3 at *
  have t : popc 32 x = p0 + p1 + p2 + p3 := by omega
  have a0 : z / 256 = p1 + 256 * (p2 + 256 * (p3 + 256 * (0))) := by omega
  have b1 : z1 = (p0 + p1) + 256 * ((p1 + p2) + 256 * ((p2 + p3) + 256 * ((p3) + 256 * (0)))) := by omega
  have a1 : z1 / 65536 = (p2 + p3) + 256 * ((p3) + 256 * (0)) := by clear hz a0 h1; omega
  have b2 : z2 = ((p0 + p1) + (p2 + p3)) + 256 * (((p1 + p2) + (p3)) + 256 * (((p2 + p3)) + 256 * (((p3)) + 256 * (0)))) := by omega
  clear hz a0 h1 b1 a1 h2; rw [t, b2]; constructor <;> omega

end PopT
end Go.Proofs.YtoegodeglgeomaaDoor
