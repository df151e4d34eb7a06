/- MADE BY PROGRAM (divlaw.py): a number is quotient times divisor and rest. -/
import Derived.Test.YtoegodeglgeomaaDoorUDiv
namespace Go.Proofs.YtoegodeglgeomaaDoor
open Go
namespace Sh

set_option maxRecDepth 100000 in
theorem c_two_32_3_0 (a b n : Int) (h : SpecD S 13 [.int .i64 106, .int .u64 a, .int .u64 b] [] (.tup [.int .u64 n, .int .i64 0]) []) : SpecD S 16 [.bool false, .int .i64 3, .int .u64 a, .int .u64 b] [] (.tup [.int .u64 n, .int .i64 0]) [] := by
  refine specE ok sh16 rfl ?_
  conv => whnf
  refine call_of [] (h) (by rfl) (by rfl) ?_
  conv => whnf
  exact end_of [] (by rfl) (by rfl) (by rfl) (by exact ⟨rfl, rfl⟩)

set_option maxRecDepth 100000 in
theorem c_two_32_5_0 (a b n : Int) (h : SpecD S 13 [.int .i64 108, .int .u64 a, .int .u64 b] [] (.tup [.int .u64 n, .int .i64 0]) []) : SpecD S 16 [.bool false, .int .i64 5, .int .u64 a, .int .u64 b] [] (.tup [.int .u64 n, .int .i64 0]) [] := by
  refine specE ok sh16 rfl ?_
  conv => whnf
  refine call_of [] (h) (by rfl) (by rfl) ?_
  conv => whnf
  exact end_of [] (by rfl) (by rfl) (by rfl) (by exact ⟨rfl, rfl⟩)

set_option maxRecDepth 100000 in
theorem c_two_32_6_0 (a b n : Int) (h : SpecD S 13 [.int .i64 109, .int .u64 a, .int .u64 b] [] (.tup [.int .u64 n, .int .i64 0]) []) : SpecD S 16 [.bool false, .int .i64 6, .int .u64 a, .int .u64 b] [] (.tup [.int .u64 n, .int .i64 0]) [] := by
  refine specE ok sh16 rfl ?_
  conv => whnf
  refine call_of [] (h) (by rfl) (by rfl) ?_
  conv => whnf
  exact end_of [] (by rfl) (by rfl) (by rfl) (by exact ⟨rfl, rfl⟩)

set_option maxRecDepth 100000 in
theorem c_two_32_6_30 (a b n : Int) (h : SpecD S 13 [.int .i64 109, .int .u64 a, .int .u64 b] [] (.tup [.int .u64 n, .int .i64 30]) []) : SpecD S 16 [.bool false, .int .i64 6, .int .u64 a, .int .u64 b] [] (.tup [.int .u64 n, .int .i64 30]) [] := by
  refine specE ok sh16 rfl ?_
  conv => whnf
  refine call_of [] (h) (by rfl) (by rfl) ?_
  conv => whnf
  exact end_of [] (by rfl) (by rfl) (by rfl) (by exact ⟨rfl, rfl⟩)

set_option maxRecDepth 100000 in
theorem c_two_32_6_31 (a b n : Int) (h : SpecD S 13 [.int .i64 109, .int .u64 a, .int .u64 b] [] (.tup [.int .u64 n, .int .i64 31]) []) : SpecD S 16 [.bool false, .int .i64 6, .int .u64 a, .int .u64 b] [] (.tup [.int .u64 n, .int .i64 31]) [] := by
  refine specE ok sh16 rfl ?_
  conv => whnf
  refine call_of [] (h) (by rfl) (by rfl) ?_
  conv => whnf
  exact end_of [] (by rfl) (by rfl) (by rfl) (by exact ⟨rfl, rfl⟩)

set_option maxRecDepth 100000 in
theorem c_two_32_7_0 (a b n : Int) (h : SpecD S 13 [.int .i64 110, .int .u64 a, .int .u64 b] [] (.tup [.int .u64 n, .int .i64 0]) []) : SpecD S 16 [.bool false, .int .i64 7, .int .u64 a, .int .u64 b] [] (.tup [.int .u64 n, .int .i64 0]) [] := by
  refine specE ok sh16 rfl ?_
  conv => whnf
  refine call_of [] (h) (by rfl) (by rfl) ?_
  conv => whnf
  exact end_of [] (by rfl) (by rfl) (by rfl) (by exact ⟨rfl, rfl⟩)

set_option maxRecDepth 100000 in
theorem c_two_32_7_30 (a b n : Int) (h : SpecD S 13 [.int .i64 110, .int .u64 a, .int .u64 b] [] (.tup [.int .u64 n, .int .i64 30]) []) : SpecD S 16 [.bool false, .int .i64 7, .int .u64 a, .int .u64 b] [] (.tup [.int .u64 n, .int .i64 30]) [] := by
  refine specE ok sh16 rfl ?_
  conv => whnf
  refine call_of [] (h) (by rfl) (by rfl) ?_
  conv => whnf
  exact end_of [] (by rfl) (by rfl) (by rfl) (by exact ⟨rfl, rfl⟩)

set_option maxRecDepth 100000 in
theorem c_two_32_7_31 (a b n : Int) (h : SpecD S 13 [.int .i64 110, .int .u64 a, .int .u64 b] [] (.tup [.int .u64 n, .int .i64 31]) []) : SpecD S 16 [.bool false, .int .i64 7, .int .u64 a, .int .u64 b] [] (.tup [.int .u64 n, .int .i64 31]) [] := by
  refine specE ok sh16 rfl ?_
  conv => whnf
  refine call_of [] (h) (by rfl) (by rfl) ?_
  conv => whnf
  exact end_of [] (by rfl) (by rfl) (by rfl) (by exact ⟨rfl, rfl⟩)

set_option maxRecDepth 100000 in
theorem c_two_32_8_0 (a b n : Int) (h : SpecD S 13 [.int .i64 111, .int .u64 a, .int .u64 b] [] (.tup [.int .u64 n, .int .i64 0]) []) : SpecD S 16 [.bool false, .int .i64 8, .int .u64 a, .int .u64 b] [] (.tup [.int .u64 n, .int .i64 0]) [] := by
  refine specE ok sh16 rfl ?_
  conv => whnf
  refine call_of [] (h) (by rfl) (by rfl) ?_
  conv => whnf
  exact end_of [] (by rfl) (by rfl) (by rfl) (by exact ⟨rfl, rfl⟩)

set_option maxRecDepth 100000 in
theorem c_two_32_8_30 (a b n : Int) (h : SpecD S 13 [.int .i64 111, .int .u64 a, .int .u64 b] [] (.tup [.int .u64 n, .int .i64 30]) []) : SpecD S 16 [.bool false, .int .i64 8, .int .u64 a, .int .u64 b] [] (.tup [.int .u64 n, .int .i64 30]) [] := by
  refine specE ok sh16 rfl ?_
  conv => whnf
  refine call_of [] (h) (by rfl) (by rfl) ?_
  conv => whnf
  exact end_of [] (by rfl) (by rfl) (by rfl) (by exact ⟨rfl, rfl⟩)

set_option maxRecDepth 100000 in
theorem c_two_32_8_31 (a b n : Int) (h : SpecD S 13 [.int .i64 111, .int .u64 a, .int .u64 b] [] (.tup [.int .u64 n, .int .i64 31]) []) : SpecD S 16 [.bool false, .int .i64 8, .int .u64 a, .int .u64 b] [] (.tup [.int .u64 n, .int .i64 31]) [] := by
  refine specE ok sh16 rfl ?_
  conv => whnf
  refine call_of [] (h) (by rfl) (by rfl) ?_
  conv => whnf
  exact end_of [] (by rfl) (by rfl) (by rfl) (by exact ⟨rfl, rfl⟩)

set_option maxRecDepth 100000 in
theorem c_two_32_9_0 (a b n : Int) (h : SpecD S 13 [.int .i64 112, .int .u64 a, .int .u64 b] [] (.tup [.int .u64 n, .int .i64 0]) []) : SpecD S 16 [.bool false, .int .i64 9, .int .u64 a, .int .u64 b] [] (.tup [.int .u64 n, .int .i64 0]) [] := by
  refine specE ok sh16 rfl ?_
  conv => whnf
  refine call_of [] (h) (by rfl) (by rfl) ?_
  conv => whnf
  exact end_of [] (by rfl) (by rfl) (by rfl) (by exact ⟨rfl, rfl⟩)

set_option maxRecDepth 100000 in
theorem c_two_32_9_30 (a b n : Int) (h : SpecD S 13 [.int .i64 112, .int .u64 a, .int .u64 b] [] (.tup [.int .u64 n, .int .i64 30]) []) : SpecD S 16 [.bool false, .int .i64 9, .int .u64 a, .int .u64 b] [] (.tup [.int .u64 n, .int .i64 30]) [] := by
  refine specE ok sh16 rfl ?_
  conv => whnf
  refine call_of [] (h) (by rfl) (by rfl) ?_
  conv => whnf
  exact end_of [] (by rfl) (by rfl) (by rfl) (by exact ⟨rfl, rfl⟩)

set_option maxRecDepth 100000 in
theorem c_two_32_9_31 (a b n : Int) (h : SpecD S 13 [.int .i64 112, .int .u64 a, .int .u64 b] [] (.tup [.int .u64 n, .int .i64 31]) []) : SpecD S 16 [.bool false, .int .i64 9, .int .u64 a, .int .u64 b] [] (.tup [.int .u64 n, .int .i64 31]) [] := by
  refine specE ok sh16 rfl ?_
  conv => whnf
  refine call_of [] (h) (by rfl) (by rfl) ?_
  conv => whnf
  exact end_of [] (by rfl) (by rfl) (by rfl) (by exact ⟨rfl, rfl⟩)

set_option maxRecDepth 100000 in
theorem c_two_64_3_0 (a b n : Int) (h : SpecD S 13 [.int .i64 124, .int .u64 a, .int .u64 b] [] (.tup [.int .u64 n, .int .i64 0]) []) : SpecD S 16 [.bool true, .int .i64 3, .int .u64 a, .int .u64 b] [] (.tup [.int .u64 n, .int .i64 0]) [] := by
  refine specE ok sh16 rfl ?_
  conv => whnf
  refine call_of [] (h) (by rfl) (by rfl) ?_
  conv => whnf
  exact end_of [] (by rfl) (by rfl) (by rfl) (by exact ⟨rfl, rfl⟩)

set_option maxRecDepth 100000 in
theorem c_two_64_5_0 (a b n : Int) (h : SpecD S 13 [.int .i64 126, .int .u64 a, .int .u64 b] [] (.tup [.int .u64 n, .int .i64 0]) []) : SpecD S 16 [.bool true, .int .i64 5, .int .u64 a, .int .u64 b] [] (.tup [.int .u64 n, .int .i64 0]) [] := by
  refine specE ok sh16 rfl ?_
  conv => whnf
  refine call_of [] (h) (by rfl) (by rfl) ?_
  conv => whnf
  exact end_of [] (by rfl) (by rfl) (by rfl) (by exact ⟨rfl, rfl⟩)

set_option maxRecDepth 100000 in
theorem c_two_64_6_0 (a b n : Int) (h : SpecD S 13 [.int .i64 127, .int .u64 a, .int .u64 b] [] (.tup [.int .u64 n, .int .i64 0]) []) : SpecD S 16 [.bool true, .int .i64 6, .int .u64 a, .int .u64 b] [] (.tup [.int .u64 n, .int .i64 0]) [] := by
  refine specE ok sh16 rfl ?_
  conv => whnf
  refine call_of [] (h) (by rfl) (by rfl) ?_
  conv => whnf
  exact end_of [] (by rfl) (by rfl) (by rfl) (by exact ⟨rfl, rfl⟩)

set_option maxRecDepth 100000 in
theorem c_two_64_6_30 (a b n : Int) (h : SpecD S 13 [.int .i64 127, .int .u64 a, .int .u64 b] [] (.tup [.int .u64 n, .int .i64 30]) []) : SpecD S 16 [.bool true, .int .i64 6, .int .u64 a, .int .u64 b] [] (.tup [.int .u64 n, .int .i64 30]) [] := by
  refine specE ok sh16 rfl ?_
  conv => whnf
  refine call_of [] (h) (by rfl) (by rfl) ?_
  conv => whnf
  exact end_of [] (by rfl) (by rfl) (by rfl) (by exact ⟨rfl, rfl⟩)

set_option maxRecDepth 100000 in
theorem c_two_64_6_31 (a b n : Int) (h : SpecD S 13 [.int .i64 127, .int .u64 a, .int .u64 b] [] (.tup [.int .u64 n, .int .i64 31]) []) : SpecD S 16 [.bool true, .int .i64 6, .int .u64 a, .int .u64 b] [] (.tup [.int .u64 n, .int .i64 31]) [] := by
  refine specE ok sh16 rfl ?_
  conv => whnf
  refine call_of [] (h) (by rfl) (by rfl) ?_
  conv => whnf
  exact end_of [] (by rfl) (by rfl) (by rfl) (by exact ⟨rfl, rfl⟩)

set_option maxRecDepth 100000 in
theorem c_two_64_7_0 (a b n : Int) (h : SpecD S 13 [.int .i64 128, .int .u64 a, .int .u64 b] [] (.tup [.int .u64 n, .int .i64 0]) []) : SpecD S 16 [.bool true, .int .i64 7, .int .u64 a, .int .u64 b] [] (.tup [.int .u64 n, .int .i64 0]) [] := by
  refine specE ok sh16 rfl ?_
  conv => whnf
  refine call_of [] (h) (by rfl) (by rfl) ?_
  conv => whnf
  exact end_of [] (by rfl) (by rfl) (by rfl) (by exact ⟨rfl, rfl⟩)

set_option maxRecDepth 100000 in
theorem c_two_64_7_30 (a b n : Int) (h : SpecD S 13 [.int .i64 128, .int .u64 a, .int .u64 b] [] (.tup [.int .u64 n, .int .i64 30]) []) : SpecD S 16 [.bool true, .int .i64 7, .int .u64 a, .int .u64 b] [] (.tup [.int .u64 n, .int .i64 30]) [] := by
  refine specE ok sh16 rfl ?_
  conv => whnf
  refine call_of [] (h) (by rfl) (by rfl) ?_
  conv => whnf
  exact end_of [] (by rfl) (by rfl) (by rfl) (by exact ⟨rfl, rfl⟩)

set_option maxRecDepth 100000 in
theorem c_two_64_7_31 (a b n : Int) (h : SpecD S 13 [.int .i64 128, .int .u64 a, .int .u64 b] [] (.tup [.int .u64 n, .int .i64 31]) []) : SpecD S 16 [.bool true, .int .i64 7, .int .u64 a, .int .u64 b] [] (.tup [.int .u64 n, .int .i64 31]) [] := by
  refine specE ok sh16 rfl ?_
  conv => whnf
  refine call_of [] (h) (by rfl) (by rfl) ?_
  conv => whnf
  exact end_of [] (by rfl) (by rfl) (by rfl) (by exact ⟨rfl, rfl⟩)

set_option maxRecDepth 100000 in
theorem c_two_64_8_0 (a b n : Int) (h : SpecD S 13 [.int .i64 129, .int .u64 a, .int .u64 b] [] (.tup [.int .u64 n, .int .i64 0]) []) : SpecD S 16 [.bool true, .int .i64 8, .int .u64 a, .int .u64 b] [] (.tup [.int .u64 n, .int .i64 0]) [] := by
  refine specE ok sh16 rfl ?_
  conv => whnf
  refine call_of [] (h) (by rfl) (by rfl) ?_
  conv => whnf
  exact end_of [] (by rfl) (by rfl) (by rfl) (by exact ⟨rfl, rfl⟩)

set_option maxRecDepth 100000 in
theorem c_two_64_8_30 (a b n : Int) (h : SpecD S 13 [.int .i64 129, .int .u64 a, .int .u64 b] [] (.tup [.int .u64 n, .int .i64 30]) []) : SpecD S 16 [.bool true, .int .i64 8, .int .u64 a, .int .u64 b] [] (.tup [.int .u64 n, .int .i64 30]) [] := by
  refine specE ok sh16 rfl ?_
  conv => whnf
  refine call_of [] (h) (by rfl) (by rfl) ?_
  conv => whnf
  exact end_of [] (by rfl) (by rfl) (by rfl) (by exact ⟨rfl, rfl⟩)

set_option maxRecDepth 100000 in
theorem c_two_64_8_31 (a b n : Int) (h : SpecD S 13 [.int .i64 129, .int .u64 a, .int .u64 b] [] (.tup [.int .u64 n, .int .i64 31]) []) : SpecD S 16 [.bool true, .int .i64 8, .int .u64 a, .int .u64 b] [] (.tup [.int .u64 n, .int .i64 31]) [] := by
  refine specE ok sh16 rfl ?_
  conv => whnf
  refine call_of [] (h) (by rfl) (by rfl) ?_
  conv => whnf
  exact end_of [] (by rfl) (by rfl) (by rfl) (by exact ⟨rfl, rfl⟩)

set_option maxRecDepth 100000 in
theorem c_two_64_9_0 (a b n : Int) (h : SpecD S 13 [.int .i64 130, .int .u64 a, .int .u64 b] [] (.tup [.int .u64 n, .int .i64 0]) []) : SpecD S 16 [.bool true, .int .i64 9, .int .u64 a, .int .u64 b] [] (.tup [.int .u64 n, .int .i64 0]) [] := by
  refine specE ok sh16 rfl ?_
  conv => whnf
  refine call_of [] (h) (by rfl) (by rfl) ?_
  conv => whnf
  exact end_of [] (by rfl) (by rfl) (by rfl) (by exact ⟨rfl, rfl⟩)

set_option maxRecDepth 100000 in
theorem c_two_64_9_30 (a b n : Int) (h : SpecD S 13 [.int .i64 130, .int .u64 a, .int .u64 b] [] (.tup [.int .u64 n, .int .i64 30]) []) : SpecD S 16 [.bool true, .int .i64 9, .int .u64 a, .int .u64 b] [] (.tup [.int .u64 n, .int .i64 30]) [] := by
  refine specE ok sh16 rfl ?_
  conv => whnf
  refine call_of [] (h) (by rfl) (by rfl) ?_
  conv => whnf
  exact end_of [] (by rfl) (by rfl) (by rfl) (by exact ⟨rfl, rfl⟩)

set_option maxRecDepth 100000 in
theorem c_two_64_9_31 (a b n : Int) (h : SpecD S 13 [.int .i64 130, .int .u64 a, .int .u64 b] [] (.tup [.int .u64 n, .int .i64 31]) []) : SpecD S 16 [.bool true, .int .i64 9, .int .u64 a, .int .u64 b] [] (.tup [.int .u64 n, .int .i64 31]) [] := by
  refine specE ok sh16 rfl ?_
  conv => whnf
  refine call_of [] (h) (by rfl) (by rfl) ?_
  conv => whnf
  exact end_of [] (by rfl) (by rfl) (by rfl) (by exact ⟨rfl, rfl⟩)

set_option maxRecDepth 100000 in
theorem c_cut_64 (a : Int) : SpecD S 17 [.bool true, .int .u64 a] [] (.int .u64 a) [] := by
  refine specE ok sh17 rfl ?_
  conv => whnf
  exact end_of [] (by rfl) (by rfl) (by rfl) (by exact ⟨rfl, rfl⟩)

set_option maxRecDepth 100000 in
theorem c_cut_32 (a : Int) (ha : 0 ≤ a) : SpecD S 17 [.bool false, .int .u64 a] [] (.int .u64 (IntKind.u64.wrap (IntKind.u32.wrap a))) [] := by
  have hm : Int.tmod a 4294967296 = IntKind.u64.wrap (IntKind.u32.wrap a) := by
    rw [Int.tmod_eq_emod_of_nonneg ha, IntKind.wrap_u64, IntKind.wrap_u32]
    omega
  rw [← hm]
  refine specE ok sh17 rfl ?_
  conv => whnf
  refine ⟨by decide, ?_⟩
  conv => whnf
  exact end_of [] (by rfl) (by rfl) (by rfl) (by exact ⟨rfl, rfl⟩)

abbrev Two (w : Bool) (place a b n e : Int) : Prop := SpecD S 16 [.bool w, .int .i64 place, .int .u64 a, .int .u64 b] [] (.tup [.int .u64 n, .int .i64 e]) []

def Rd (w : Bool) (a b ca cb : Int) (j : Nat) : Prop :=
  (cb = 0 ∧ Two w (6 + j : Nat) a b 0 30 ∧ Two w (8 + j : Nat) a b 0 30) ∨ (cb ≠ 0 ∧ j = 0 ∧ Two w (6 + j : Nat) a b 0 31 ∧ Two w (8 + j : Nat) a b 0 0) ∨
    (cb ≠ 0 ∧ ∃ q m p, Two w (6 + j : Nat) a b q 0 ∧ Two w (8 + j : Nat) a b m 0 ∧ Two w 5 q b p 0 ∧ Two w 3 p m ca 0)

def dvV (w : Bool) (a b j : Int) : List V := [.bool w, .int .u64 a, .int .u64 b, .int .i64 j]

set_option maxRecDepth 100000 in
theorem c_div_law (w : Bool) (a b ca cb : Int) (hca : SpecD S 17 [.bool w, .int .u64 a] [] (.int .u64 ca) []) (hcb : SpecD S 17 [.bool w, .int .u64 b] [] (.int .u64 cb) []) (H : ∀ j : Nat, j < 2 → Rd w a b ca cb j) :
    SpecD S 5 [.bool w, .int .u64 a, .int .u64 b] [] (.bool true) [] := by
  refine specE ok sh5 rfl ?_
  conv => whnf
  refine loop_of [] [] (fun vs H => ∃ j : Nat, j ≤ 2 ∧ vs = dvV w a b j ∧ H = [])
    (fun vs _ => match vs with | [_, _, _, .int _ j] => 2 - j.toNat | _ => 0) (by rfl) (by rfl) (by rfl) (by rfl) ⟨0, by omega, rfl, rfl⟩ ?_
  rintro vs H1 ⟨j, hj, rfl, rfl⟩
  conv => whnf
  cases hd : decide ((j : Int) < 2)
  · conv => whnf
    exact end_of [] (by rfl) (by rfl) (by rfl) (by exact ⟨rfl, rfl⟩)
  · conv => whnf
    have hlt := of_decide_eq_true hd
    have hw : IntKind.i64.wrap ((j : Int) + 1) = ((j + 1 : Nat) : Int) := wrap_i64 (by omega) (by omega)
    have hw6 : IntKind.i64.wrap (6 + (j : Int)) = ((6 + j : Nat) : Int) := (wrap_i64 (by omega) (by omega)).trans (by omega)
    have hw8 : IntKind.i64.wrap (8 + (j : Int)) = ((8 + j : Nat) : Int) := (wrap_i64 (by omega) (by omega)).trans (by omega)
    have hm : 2 - (IntKind.i64.wrap ((j : Int) + 1)).toNat < 2 - (j : Int).toNat := by rw [hw]; omega
    rcases H j (by omega) with ⟨hc, t1, t2⟩ | ⟨hc, hj0, t1, t2⟩ | ⟨hc, q, m, p, t1, t2, t3, t4⟩
    · have hb : (cb == 0) = true := by simp [hc]
      rw [← hw6] at t1
      rw [← hw8] at t2
      refine call_of [] (t1) (by rfl) (by rfl) ?_
      conv => whnf
      refine call_of [] (t2) (by rfl) (by rfl) ?_
      conv => whnf
      refine call_of [] (hcb) (by rfl) (by rfl) ?_
      conv => whnf
      simp only [hb]
      conv => whnf
      refine ⟨[], [], relo_of [] (by rfl) (by rfl), ?_⟩
      exact ⟨⟨j + 1, by omega, congrArg (dvV w a b) hw, rfl⟩, hm⟩
    · have hb : (cb == 0) = false := by simp [hc]
      rw [← hw6] at t1
      rw [← hw8] at t2
      refine call_of [] (t1) (by rfl) (by rfl) ?_
      conv => whnf
      refine call_of [] (t2) (by rfl) (by rfl) ?_
      conv => whnf
      refine call_of [] (hcb) (by rfl) (by rfl) ?_
      conv => whnf
      simp only [hb]
      conv => whnf
      have hj1 : ((j : Int) == 1) = false := by simp [hj0]
      simp only [hj1]
      conv => whnf
      refine ⟨[], [], relo_of [] (by rfl) (by rfl), ?_⟩
      exact ⟨⟨j + 1, by omega, congrArg (dvV w a b) hw, rfl⟩, hm⟩
    · have hb : (cb == 0) = false := by simp [hc]
      have he : (ca != ca) = false := by simp
      rw [← hw6] at t1
      rw [← hw8] at t2
      refine call_of [] (t1) (by rfl) (by rfl) ?_
      conv => whnf
      refine call_of [] (t2) (by rfl) (by rfl) ?_
      conv => whnf
      refine call_of [] (hcb) (by rfl) (by rfl) ?_
      conv => whnf
      simp only [hb]
      conv => whnf
      refine call_of [] (t3) (by rfl) (by rfl) ?_
      conv => whnf
      refine call_of [] (t4) (by rfl) (by rfl) ?_
      conv => whnf
      refine call_of [] (hca) (by rfl) (by rfl) ?_
      conv => whnf
      simp only [he]
      conv => whnf
      refine ⟨[], [], relo_of [] (by rfl) (by rfl), ?_⟩
      exact ⟨⟨j + 1, by omega, congrArg (dvV w a b) hw, rfl⟩, hm⟩

end Sh
end Go.Proofs.YtoegodeglgeomaaDoor
