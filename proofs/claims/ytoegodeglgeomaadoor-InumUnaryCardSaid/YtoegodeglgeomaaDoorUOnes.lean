/- MADE BY PROGRAM (turngen.py): bits.OnesCount64 and OnesCount32 count the set bits. -/
import Derived.Test.YtoegodeglgeomaaDoorUExt
import Derived.Test.YtoegodeglgeomaaDoorPop
import Derived.Test.YtoegodeglgeomaaDoorUShadeB
namespace Go.Proofs.YtoegodeglgeomaaDoor
open Go PopT
namespace Sh

theorem nn_shr (A : Nat) (k : Int) (j w : Nat) (h : min k.toNat w = j) : (A : Int).fdiv (2 ^ min k.toNat w) = ((A / 2 ^ j : Nat) : Int) := by
  rw [h, Int.fdiv_eq_ediv_of_nonneg _ (by exact Int.le_of_lt (Int.pow_pos (by decide)))]; simp

theorem nn_and (A M : Nat) (hA : A < 2 ^ 64) (hM : M < 2 ^ 64) : IntKind.u64.wrap ((BitVec.ofInt IntKind.u64.bits (A : Int) &&& BitVec.ofInt IntKind.u64.bits (M : Int)).toNat : Int) = ((A &&& M : Nat) : Int) :=
  bits_and_u64_nat A M hA hM
theorem nn_and32 (A M : Nat) (hA : A < 2 ^ 32) (hM : M < 2 ^ 32) : IntKind.u32.wrap ((BitVec.ofInt IntKind.u32.bits (A : Int) &&& BitVec.ofInt IntKind.u32.bits (M : Int)).toNat : Int) = ((A &&& M : Nat) : Int) :=
  bits_and_u32_nat A M hA hM
theorem nn_add (A B : Nat) (h : A + B < 2 ^ 64) : IntKind.u64.wrap ((A : Int) + (B : Int)) = ((A + B : Nat) : Int) := by rw [IntKind.wrap_u64]; omega

theorem nn_andi (A : Nat) (hA : A < 2 ^ 63) : IntKind.i64.wrap ((BitVec.ofInt IntKind.i64.bits (IntKind.i64.wrap (A : Int)) &&& BitVec.ofInt IntKind.i64.bits 127).toNat : Int) = ((A % 128 : Nat) : Int) := by
  have h1 : IntKind.i64.wrap (A : Int) = (A : Int) := by rw [IntKind.wrap_i64]; omega
  have h2 : (BitVec.ofInt 64 (A : Int)).toNat = A := by rw [BitVec.ofInt_natCast, BitVec.toNat_ofNat]; exact Nat.mod_eq_of_lt (by omega)
  rw [h1]
  show IntKind.i64.wrap ((BitVec.ofInt 64 (A : Int) &&& BitVec.ofInt 64 127).toNat : Int) = _
  rw [BitVec.toNat_and, h2, show (BitVec.ofInt 64 127).toNat = 2 ^ 7 - 1 by rfl, Nat.and_two_pow_sub_one_eq_mod, IntKind.wrap_i64]
  omega

theorem W_85 : W 85 8 = 6148914691236517205 := by decide
theorem W_51 : W 51 8 = 3689348814741910323 := by decide
theorem W_15 : W 15 8 = 1085102592571150095 := by decide

set_option maxRecDepth 100000 in
theorem c_ones64 (A : Nat) (hA : A < 2 ^ 64) : SpecD S 48 [.int .u64 (A : Int)] [] (.int .i64 (popc 64 A : Nat)) [] := by
  have a1 := nn_shr A 1 1 64 (by decide)
  have b1 := nn_and (A / 2 ^ 1) 6148914691236517205 (by omega) (by decide)
  have b2 := nn_and A 6148914691236517205 hA (by decide)
  have l1 : A / 2 ^ 1 &&& 6148914691236517205 ≤ 6148914691236517205 := Nat.and_le_right
  have l2 : A &&& 6148914691236517205 ≤ 6148914691236517205 := Nat.and_le_right
  have b3 := nn_add (A / 2 ^ 1 &&& 6148914691236517205) (A &&& 6148914691236517205) (by omega)
  have hy : (A / 2 ^ 1 &&& 6148914691236517205) + (A &&& 6148914691236517205) = (A / 2 &&& W 85 8) + (A &&& W 85 8) := by rw [W_85]
  have ly : (A / 2 ^ 1 &&& 6148914691236517205) + (A &&& 6148914691236517205) < 2 ^ 64 := by omega
  generalize (A / 2 ^ 1 &&& 6148914691236517205) + (A &&& 6148914691236517205) = Y at b3 hy ly
  have a2 := nn_shr Y 2 2 64 (by decide)
  have c1 := nn_and (Y / 2 ^ 2) 3689348814741910323 (by omega) (by decide)
  have c2 := nn_and Y 3689348814741910323 ly (by decide)
  have l3 : Y / 2 ^ 2 &&& 3689348814741910323 ≤ 3689348814741910323 := Nat.and_le_right
  have l4 : Y &&& 3689348814741910323 ≤ 3689348814741910323 := Nat.and_le_right
  have c3 := nn_add (Y / 2 ^ 2 &&& 3689348814741910323) (Y &&& 3689348814741910323) (by omega)
  have hz : (Y / 2 ^ 2 &&& 3689348814741910323) + (Y &&& 3689348814741910323) = (Y / 4 &&& W 51 8) + (Y &&& W 51 8) := by rw [W_51]
  have lz : (Y / 2 ^ 2 &&& 3689348814741910323) + (Y &&& 3689348814741910323) ≤ 7378697629483820646 := by omega
  generalize (Y / 2 ^ 2 &&& 3689348814741910323) + (Y &&& 3689348814741910323) = Z at c3 hz lz
  have a3 := nn_shr Z 4 4 64 (by decide)
  have d1 := nn_add (Z / 2 ^ 4) Z (by omega)
  have d2 := nn_and (Z / 2 ^ 4 + Z) 1085102592571150095 (by omega) (by decide)
  have hs := steps 8 A Y Z hy hz
  have hq : (Z / 2 ^ 4 + Z) &&& 1085102592571150095 = by8 (popc 8) 8 A := by rw [← hs, W_15]
  have lq : (Z / 2 ^ 4 + Z) &&& 1085102592571150095 ≤ 1085102592571150095 := Nat.and_le_right
  generalize (Z / 2 ^ 4 + Z) &&& 1085102592571150095 = Q at d2 hq lq
  obtain ⟨hp, _⟩ := sum64 A Q _ _ _ hq rfl rfl rfl
  have a4 := nn_shr Q 8 8 64 (by decide)
  have e1 := nn_add Q (Q / 2 ^ 8) (by omega)
  have l5 : Q + Q / 2 ^ 8 < 2 ^ 61 := by omega
  have hq1 : Q + Q / 2 ^ 8 = Q + Q / 256 := rfl
  rw [← hq1] at hp
  generalize Q + Q / 2 ^ 8 = Q1 at e1 l5 hp
  have a5 := nn_shr Q1 16 16 64 (by decide)
  have e2 := nn_add Q1 (Q1 / 2 ^ 16) (by omega)
  have l6 : Q1 + Q1 / 2 ^ 16 < 2 ^ 62 := by omega
  have hq2 : Q1 + Q1 / 2 ^ 16 = Q1 + Q1 / 65536 := rfl
  rw [← hq2] at hp
  generalize Q1 + Q1 / 2 ^ 16 = Q2 at e2 l6 hp
  have a6 := nn_shr Q2 32 32 64 (by decide)
  have e3 := nn_add Q2 (Q2 / 2 ^ 32) (by omega)
  have l7 : Q2 + Q2 / 2 ^ 32 < 2 ^ 63 := by omega
  have hq3 : Q2 + Q2 / 2 ^ 32 = Q2 + Q2 / 4294967296 := rfl
  rw [← hq3] at hp
  generalize Q2 + Q2 / 2 ^ 32 = Q3 at e3 l7 hp
  have e4 := nn_andi Q3 l7
  rw [hp] at e4
  refine specE ok sh48 rfl ?_
  conv => whnf
  refine ⟨by decide, ?_⟩
  conv => whnf
  refine ⟨by decide, ?_⟩
  conv => whnf
  refine ⟨by decide, ?_⟩
  conv => whnf
  refine ⟨by decide, ?_⟩
  conv => whnf
  refine ⟨by decide, ?_⟩
  conv => whnf
  refine ⟨by decide, ?_⟩
  conv => whnf
  refine end_of [] (by rfl) (by rfl) (by rfl) ⟨congrArg (AV.int .i64) (Eq.trans ?_ e4), rfl⟩
  refine congrArg (fun n : Int => IntKind.i64.wrap ((BitVec.ofInt IntKind.i64.bits (IntKind.i64.wrap n) &&& BitVec.ofInt IntKind.i64.bits 127).toNat : Int)) ?_
  rw [← e3, ← a6, ← e2, ← a5, ← e1, ← a4, ← d2, ← d1, ← a3, ← c3, ← c2, ← c1, ← a2, ← b3, ← b2, ← b1, ← a1]
  rfl

def popT : ByteArray := ⟨#[0, 1, 1, 2, 1, 2, 2, 3, 1, 2, 2, 3, 2, 3, 3, 4, 1, 2, 2, 3, 2, 3, 3, 4, 2, 3, 3, 4, 3, 4, 4, 5, 1, 2, 2, 3, 2, 3, 3, 4, 2, 3, 3, 4, 3, 4, 4, 5, 2, 3, 3, 4, 3, 4, 4, 5, 3, 4, 4, 5, 4, 5, 5, 6, 1, 2, 2, 3, 2, 3, 3, 4, 2, 3, 3, 4, 3, 4, 4, 5, 2, 3, 3, 4, 3, 4, 4, 5, 3, 4, 4, 5, 4, 5, 5, 6, 2, 3, 3, 4, 3, 4, 4, 5, 3, 4, 4, 5, 4, 5, 5, 6, 3, 4, 4, 5, 4, 5, 5, 6, 4, 5, 5, 6, 5, 6, 6, 7, 1, 2, 2, 3, 2, 3, 3, 4, 2, 3, 3, 4, 3, 4, 4, 5, 2, 3, 3, 4, 3, 4, 4, 5, 3, 4, 4, 5, 4, 5, 5, 6, 2, 3, 3, 4, 3, 4, 4, 5, 3, 4, 4, 5, 4, 5, 5, 6, 3, 4, 4, 5, 4, 5, 5, 6, 4, 5, 5, 6, 5, 6, 6, 7, 2, 3, 3, 4, 3, 4, 4, 5, 3, 4, 4, 5, 4, 5, 5, 6, 3, 4, 4, 5, 4, 5, 5, 6, 4, 5, 5, 6, 5, 6, 6, 7, 3, 4, 4, 5, 4, 5, 5, 6, 4, 5, 5, 6, 5, 6, 6, 7, 4, 5, 5, 6, 5, 6, 6, 7, 5, 6, 6, 7, 6, 7, 7, 8]⟩
theorem popT_at (n : Nat) (h : n < 256) : byteAt popT n = (popc 8 n : Nat) :=
  of_decide_eq_true (f256 (p := fun n => decide (byteAt popT n = (popc 8 n : Nat))) (by decide +kernel) n h)

theorem popc_32 (A : Nat) : popc 32 A = popc 8 (A % 256) + popc 8 (A / 256 % 256) + popc 8 (A / 65536 % 256) + popc 8 (A / 16777216 % 256) := by
  have e0 := popc_split 8 24 A
  have e1 := popc_split 8 16 (A / 256)
  have e2 := popc_split 8 8 (A / 256 / 256)
  have e3 := popc_split 8 0 (A / 256 / 256 / 256)
  simp only [show 8 + 24 = 32 by rfl, show 8 + 16 = 24 by rfl, show 8 + 8 = 16 by rfl, show 8 + 0 = 8 by rfl, show (2 : Nat) ^ 8 = 256 by rfl, popc.eq_1] at e0 e1 e2 e3
  rw [show A / 256 / 256 = A / 65536 by omega] at *
  rw [show A / 65536 / 256 = A / 16777216 by omega] at *
  omega

theorem nn_and255 (A : Nat) (hA : A < 2 ^ 32) : IntKind.u32.wrap ((BitVec.ofInt IntKind.u32.bits (A : Int) &&& BitVec.ofInt IntKind.u32.bits 255).toNat : Int) = ((A % 256 : Nat) : Int) := by
  have h := nn_and32 A 255 hA (by decide)
  rw [show A &&& 255 = A % 256 from Nat.and_two_pow_sub_one_eq_mod A 8] at h
  exact h

set_option maxRecDepth 100000 in
theorem c_ones32 (A : Nat) (hA : A < 2 ^ 32) : SpecD S 51 [.int .u32 (A : Int)] [] (.int .i64 (popc 32 A : Nat)) [] := by
  have a1 : (A : Int).fdiv (2 ^ min (Int.toNat 24) IntKind.u32.bits) = ((A / 16777216 : Nat) : Int) := nn_shr A 24 24 32 (by decide)
  have a2 : (A : Int).fdiv (2 ^ min (Int.toNat 16) IntKind.u32.bits) = ((A / 65536 : Nat) : Int) := nn_shr A 16 16 32 (by decide)
  have a3 : (A : Int).fdiv (2 ^ min (Int.toNat 8) IntKind.u32.bits) = ((A / 256 : Nat) : Int) := nn_shr A 8 8 32 (by decide)
  have b2 := nn_and255 (A / 65536) (by omega)
  have b3 := nn_and255 (A / 256) (by omega)
  have b4 := nn_and255 A hA
  have t1 := popT_at (A / 16777216) (by omega)
  have t2 := popT_at (A / 65536 % 256) (by omega)
  have t3 := popT_at (A / 256 % 256) (by omega)
  have t4 := popT_at (A % 256) (by omega)
  have hp := popc_32 A
  rw [show A / 16777216 % 256 = A / 16777216 by omega] at hp
  have l1 := popc_le 8 (A / 16777216)
  have l2 := popc_le 8 (A / 65536 % 256)
  have l3 := popc_le 8 (A / 256 % 256)
  have l4 := popc_le 8 (A % 256)
  refine specE ok sh51 rfl ?_
  conv => whnf
  refine ⟨by decide, ?_⟩
  conv => whnf
  refine ⟨by rw [a1]; omega, by rw [a1]; exact Int.lt_of_lt_of_le (b := 256) (by omega) (by decide), ?_⟩
  conv => whnf
  refine ⟨by decide, ?_⟩
  conv => whnf
  refine ⟨by rw [a2, b2]; omega, by rw [a2, b2]; exact Int.lt_of_lt_of_le (b := 256) (by omega) (by decide), ?_⟩
  conv => whnf
  refine ⟨by decide, ?_⟩
  conv => whnf
  refine ⟨by rw [a3, b3]; omega, by rw [a3, b3]; exact Int.lt_of_lt_of_le (b := 256) (by omega) (by decide), ?_⟩
  conv => whnf
  refine ⟨by rw [b4]; omega, by rw [b4]; exact Int.lt_of_lt_of_le (b := 256) (by omega) (by decide), ?_⟩
  conv => whnf
  refine end_of [] (by rfl) (by rfl) (by rfl) ⟨congrArg (AV.int .i64) ?_, rfl⟩
  show IntKind.i64.wrap (IntKind.u8.wrap (IntKind.u8.wrap (IntKind.u8.wrap (byteAt popT ((A : Int).fdiv (2 ^ min (Int.toNat 24) IntKind.u32.bits)).toNat
    + byteAt popT (IntKind.u32.wrap ((BitVec.ofInt IntKind.u32.bits ((A : Int).fdiv (2 ^ min (Int.toNat 16) IntKind.u32.bits)) &&& BitVec.ofInt IntKind.u32.bits 255).toNat : Int)).toNat)
    + byteAt popT (IntKind.u32.wrap ((BitVec.ofInt IntKind.u32.bits ((A : Int).fdiv (2 ^ min (Int.toNat 8) IntKind.u32.bits)) &&& BitVec.ofInt IntKind.u32.bits 255).toNat : Int)).toNat)
    + byteAt popT (IntKind.u32.wrap ((BitVec.ofInt IntKind.u32.bits (A : Int) &&& BitVec.ofInt IntKind.u32.bits 255).toNat : Int)).toNat)) = _
  rw [a1, a2, a3, b2, b3, b4, Int.toNat_natCast, Int.toNat_natCast, Int.toNat_natCast, Int.toNat_natCast, t1, t2, t3, t4]
  simp only [IntKind.wrap_i64, IntKind.wrap_u8]
  omega

end Sh
end Go.Proofs.YtoegodeglgeomaaDoor
