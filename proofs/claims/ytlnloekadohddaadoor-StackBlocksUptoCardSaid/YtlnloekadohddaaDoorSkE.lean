/- MADE BY PROGRAM (skegen.py): what a checker's methods answer, part 3: pushes. -/
import Derived.Test.YtlnloekadohddaaDoorSkD
namespace Go.Proofs.YtlnloekadohddaaDoor
open Go
namespace Sh

/-- The checker whose operands lie in a new row. -/
def ckM (l : List El_grp) (lo : List El_vt) (se : List Bool) (re : List El_vt) (X : AO KT ElT) (F : V) (op : List El_vt) (fr : List El_frame) : Heap KT ElT :=
  [ckC l lo.length se.length re.length (.own .vt 6 0 op.length .whole) F, .row .vt lo, .row .bool se, .row .vt re, X, .row .frame fr, .row .vt op]
def puV (q : List El_vt) (j : Int) : List V := [.ptr 0 0, .imm .vt q, .int .i64 q.length, .int .i64 j]
theorem take_succ' {q : List El_vt} {j : Nat} {y : El_vt} (h : q[j]? = some y) : q.take (j + 1) = q.take j ++ [y] := by rw [List.take_add_one, h]; rfl

variable {l : List El_grp} {lo : List El_vt} {se : List Bool} {re : List El_vt} {op : List El_vt}

set_option maxRecDepth 100000 in
theorem c_pushV_WA {f0 : El_frame} (m : Nat) (v : El_vt) (hm : m ≤ op.length) (hl : m ≤ 4000000) : SpecD S 33 [.ptr 0 5, .agg (enc_vt v)] (ck l lo se re (.own .vt 4 0 m .whole) (.own .frame 5 0 1 .whole) op [f0]) (.tup []) (ckM l lo se re .gone (.own .frame 5 0 1 .whole) (op.take m ++ [v]) [f0]) := by
  refine specE ok sh33 rfl ?_
  conv => whnf
  refine And.intro (by repeat first | exact trivial | refine And.intro (by first | rfl | exact trivial) ?_) ?_
  conv => whnf
  refine ⟨rfl, by simp, ?_⟩
  conv => whnf
  refine ⟨rfl, by simp; omega, ⟨by unfold maxLen; simp; omega, by simp [S]; omega⟩, rfl, ?_⟩
  conv => whnf
  refine And.intro (by repeat first | exact trivial | refine And.intro (by first | rfl | exact trivial) ?_) ?_
  conv => whnf
  refine end_of [0, 1, 2, 3, 4, 5, 8] (by rfl) (by rfl) (by rfl) ⟨rfl, ?_⟩
  unfold ckM
  rw [show (op.take m ++ [v]).length = m + 1 by simp; omega]
  rfl

set_option maxRecDepth 100000 in
theorem c_pushV_FA {f0 : El_frame} (m : Nat) (v : El_vt) (hm : m ≤ op.length) (hl : m ≤ 4000000) : SpecD S 33 [.ptr 0 5, .agg (enc_vt v)] (ck l lo se re (.own .vt 4 0 m .full) (.own .frame 5 0 1 .whole) op [f0]) (.tup []) (ckM l lo se re (.row .vt op) (.own .frame 5 0 1 .whole) (op.take m ++ [v]) [f0]) := by
  refine specE ok sh33 rfl ?_
  conv => whnf
  refine And.intro (by repeat first | exact trivial | refine And.intro (by first | rfl | exact trivial) ?_) ?_
  conv => whnf
  refine ⟨rfl, by simp, ?_⟩
  conv => whnf
  refine ⟨rfl, by simp; omega, ⟨by unfold maxLen; simp; omega, by simp [S]; omega⟩, by simp, ?_⟩
  conv => whnf
  refine And.intro (by repeat first | exact trivial | refine And.intro (by first | rfl | exact trivial) ?_) ?_
  conv => whnf
  refine end_of [0, 1, 2, 3, 4, 5, 8] (by rfl) (by rfl) (by rfl) ⟨rfl, ?_⟩
  unfold ckM
  rw [show (op.take m ++ [v]).length = m + 1 by simp; omega]
  rfl

set_option maxRecDepth 100000 in
theorem c_pushV_WB {f0 f1 : El_frame} (m : Nat) (v : El_vt) (hm : m ≤ op.length) (hl : m ≤ 4000000) : SpecD S 33 [.ptr 0 5, .agg (enc_vt v)] (ck l lo se re (.own .vt 4 0 m .whole) (.own .frame 5 0 2 .whole) op [f0, f1]) (.tup []) (ckM l lo se re .gone (.own .frame 5 0 2 .whole) (op.take m ++ [v]) [f0, f1]) := by
  refine specE ok sh33 rfl ?_
  conv => whnf
  refine And.intro (by repeat first | exact trivial | refine And.intro (by first | rfl | exact trivial) ?_) ?_
  conv => whnf
  refine ⟨rfl, by simp, ?_⟩
  conv => whnf
  refine ⟨rfl, by simp; omega, ⟨by unfold maxLen; simp; omega, by simp [S]; omega⟩, rfl, ?_⟩
  conv => whnf
  refine And.intro (by repeat first | exact trivial | refine And.intro (by first | rfl | exact trivial) ?_) ?_
  conv => whnf
  refine end_of [0, 1, 2, 3, 4, 5, 8] (by rfl) (by rfl) (by rfl) ⟨rfl, ?_⟩
  unfold ckM
  rw [show (op.take m ++ [v]).length = m + 1 by simp; omega]
  rfl

set_option maxRecDepth 100000 in
theorem c_pushV_FB {f0 f1 : El_frame} (m : Nat) (v : El_vt) (hm : m ≤ op.length) (hl : m ≤ 4000000) : SpecD S 33 [.ptr 0 5, .agg (enc_vt v)] (ck l lo se re (.own .vt 4 0 m .full) (.own .frame 5 0 2 .whole) op [f0, f1]) (.tup []) (ckM l lo se re (.row .vt op) (.own .frame 5 0 2 .whole) (op.take m ++ [v]) [f0, f1]) := by
  refine specE ok sh33 rfl ?_
  conv => whnf
  refine And.intro (by repeat first | exact trivial | refine And.intro (by first | rfl | exact trivial) ?_) ?_
  conv => whnf
  refine ⟨rfl, by simp, ?_⟩
  conv => whnf
  refine ⟨rfl, by simp; omega, ⟨by unfold maxLen; simp; omega, by simp [S]; omega⟩, by simp, ?_⟩
  conv => whnf
  refine And.intro (by repeat first | exact trivial | refine And.intro (by first | rfl | exact trivial) ?_) ?_
  conv => whnf
  refine end_of [0, 1, 2, 3, 4, 5, 8] (by rfl) (by rfl) (by rfl) ⟨rfl, ?_⟩
  unfold ckM
  rw [show (op.take m ++ [v]).length = m + 1 by simp; omega]
  rfl

set_option maxRecDepth 100000 in
theorem c_Pushes_WA {f0 : El_frame} (m : Nat) (q : List El_vt) (hm : m ≤ op.length) (hl : m ≤ 2000000) (hq : q.length ≤ 1048576) :
    (q = [] → SpecD S 15 [.ptr 0 0, .imm .vt q] (ck l lo se re (.own .vt 4 0 m .whole) (.own .frame 5 0 1 .whole) op [f0]) (.int .i64 0) (ck l lo se re (.own .vt 4 0 m .whole) (.own .frame 5 0 1 .whole) op [f0])) ∧ (q ≠ [] → SpecD S 15 [.ptr 0 0, .imm .vt q] (ck l lo se re (.own .vt 4 0 m .whole) (.own .frame 5 0 1 .whole) op [f0]) (.int .i64 0) (ckM l lo se re .gone (.own .frame 5 0 1 .whole) (op.take m ++ q) [f0])) := by
  have key : Spec S 15 [.ptr 0 0, .imm .vt q] (ck l lo se re (.own .vt 4 0 m .whole) (.own .frame 5 0 1 .whole) op [f0]) fun r H => r = .int .i64 0 ∧ ((q = [] ∧ H = (ck l lo se re (.own .vt 4 0 m .whole) (.own .frame 5 0 1 .whole) op [f0])) ∨ (q ≠ [] ∧ H = (ckM l lo se re .gone (.own .frame 5 0 1 .whole) (op.take m ++ q) [f0]))) := by
    refine specE ok sh15 rfl ?_
    conv => whnf
    refine call_of [0, 1, 2, 3, 4, 5] (c_shut_WA m) (by rfl) (by rfl) ?_
    conv => whnf
    refine loop_of [] [0, 1, 2, 3, 4, 5] (fun vs H => ∃ j : Nat, j ≤ q.length ∧ vs = puV q j ∧ ((j = 0 ∧ H = (ck l lo se re (.own .vt 4 0 m .whole) (.own .frame 5 0 1 .whole) op [f0])) ∨ (0 < j ∧ H = (ckM l lo se re .gone (.own .frame 5 0 1 .whole) (op.take m ++ q.take j) [f0]))))
      (fun vs _ => match vs with | [_, _, _, .int _ j] => q.length - j.toNat | _ => 0) (by rfl) (by rfl) (by rfl) (by rfl) ⟨0, Nat.zero_le _, rfl, .inl ⟨rfl, rfl⟩⟩ ?_
    rintro vs H1 ⟨j, hj, rfl, ⟨rfl, rfl⟩ | ⟨hj0, rfl⟩⟩
    · conv => whnf
      cases hd : decide (((0 : Nat) : Int) < q.length)
      · conv => whnf
        have := of_decide_eq_false hd
        have hq0 : q = [] := List.length_eq_zero_iff.1 (by omega)
        exact end_of [0, 1, 2, 3, 4, 5] (by rfl) (by rfl) (by rfl) ⟨rfl, .inl ⟨hq0, rfl⟩⟩
      · conv => whnf
        have := of_decide_eq_true hd
        have hy : q[0]? = some (q.getD 0 (S.zero .vt)) := getD_at (by omega) _
        refine ⟨rfl, by omega, by omega, ?_⟩
        conv => whnf
        refine ⟨by show 0 < q.length; omega, by decide, ?_⟩
        rw [show Int.toNat ((0 : Nat) : Int) = 0 from rfl]
        generalize q.getD 0 (S.zero .vt) = y at hy
        conv => whnf
        refine call_of [0, 1, 2, 3, 4, 5] (c_pushV_WA m y hm (by omega)) (by rfl) (by rfl) ?_
        conv => whnf
        refine ⟨[0, 1, 2, 3, 4, 5, 7], [], relo_of [0, 1, 2, 3, 4, 5, 7] (by rfl) (by rfl), ?_⟩
        refine ⟨⟨1, by omega, rfl, .inr ⟨by omega, ?_⟩⟩, ?_⟩
        · rw [show q.take 1 = [y] by rw [take_succ' hy]; rfl]; rfl
        · show q.length - 1 < q.length - 0
          omega
    · conv => whnf
      cases hd : decide ((j : Int) < q.length)
      · conv => whnf
        have := of_decide_eq_false hd
        obtain rfl : j = q.length := by omega
        rw [List.take_length]
        exact end_of [0, 1, 2, 3, 4, 5, 6] (by rfl) (by rfl) (by rfl) ⟨rfl, .inr ⟨by rintro rfl; simp at hj0, rfl⟩⟩
      · conv => whnf
        have := of_decide_eq_true hd
        have hy := getD_at (show j < q.length by omega) (S.zero .vt)
        refine ⟨rfl, by omega, by omega, ?_⟩
        conv => whnf
        refine ⟨by rw [Int.toNat_natCast]; omega, by decide, ?_⟩
        rw [Int.toNat_natCast]
        generalize q.getD j (S.zero .vt) = y at hy
        conv => whnf
        have hw : IntKind.i64.wrap ((j : Int) + 1) = ((j + 1 : Nat) : Int) := wrap_i64 (by omega) (by omega)
        have k := c_pushV_WA (l := l) (lo := lo) (se := se) (re := re) (op := op.take m ++ q.take j) (f0 := f0) (op.take m ++ q.take j).length y (Nat.le_refl _) (by simp; omega)
        rw [List.take_length] at k
        refine call_of [0, 1, 2, 3, 6, 5] (k) (by rfl) (by rfl) ?_
        conv => whnf
        refine ⟨[0, 1, 2, 3, 4, 5, 8], [], relo_of [0, 1, 2, 3, 4, 5, 8] (by rfl) (by rfl), ?_⟩
        refine ⟨⟨j + 1, by omega, congrArg (puV q) hw, .inr ⟨by omega, ?_⟩⟩, ?_⟩
        · rw [take_succ' hy, ← List.append_assoc]; rfl
        · show q.length - (IntKind.i64.wrap ((j : Int) + 1)).toNat < q.length - (j : Int).toNat
          rw [hw]; omega
  refine ⟨fun h0 => key.mono ?_, fun h0 => key.mono ?_⟩
  · rintro r H ⟨rfl, ⟨_, rfl⟩ | ⟨h1, _⟩⟩
    · exact ⟨rfl, rfl⟩
    · exact absurd h0 h1
  · rintro r H ⟨rfl, ⟨h1, _⟩ | ⟨_, rfl⟩⟩
    · exact absurd h1 h0
    · exact ⟨rfl, rfl⟩

set_option maxRecDepth 100000 in
theorem c_Pushes_WB {f0 f1 : El_frame} (m : Nat) (q : List El_vt) (hm : m ≤ op.length) (hl : m ≤ 2000000) (hq : q.length ≤ 1048576) :
    (q = [] → SpecD S 15 [.ptr 0 0, .imm .vt q] (ck l lo se re (.own .vt 4 0 m .whole) (.own .frame 5 0 2 .whole) op [f0, f1]) (.int .i64 0) (ck l lo se re (.own .vt 4 0 m .whole) (.own .frame 5 0 2 .whole) op [f0, f1])) ∧ (q ≠ [] → SpecD S 15 [.ptr 0 0, .imm .vt q] (ck l lo se re (.own .vt 4 0 m .whole) (.own .frame 5 0 2 .whole) op [f0, f1]) (.int .i64 0) (ckM l lo se re .gone (.own .frame 5 0 2 .whole) (op.take m ++ q) [f0, f1])) := by
  have key : Spec S 15 [.ptr 0 0, .imm .vt q] (ck l lo se re (.own .vt 4 0 m .whole) (.own .frame 5 0 2 .whole) op [f0, f1]) fun r H => r = .int .i64 0 ∧ ((q = [] ∧ H = (ck l lo se re (.own .vt 4 0 m .whole) (.own .frame 5 0 2 .whole) op [f0, f1])) ∨ (q ≠ [] ∧ H = (ckM l lo se re .gone (.own .frame 5 0 2 .whole) (op.take m ++ q) [f0, f1]))) := by
    refine specE ok sh15 rfl ?_
    conv => whnf
    refine call_of [0, 1, 2, 3, 4, 5] (c_shut_WB m) (by rfl) (by rfl) ?_
    conv => whnf
    refine loop_of [] [0, 1, 2, 3, 4, 5] (fun vs H => ∃ j : Nat, j ≤ q.length ∧ vs = puV q j ∧ ((j = 0 ∧ H = (ck l lo se re (.own .vt 4 0 m .whole) (.own .frame 5 0 2 .whole) op [f0, f1])) ∨ (0 < j ∧ H = (ckM l lo se re .gone (.own .frame 5 0 2 .whole) (op.take m ++ q.take j) [f0, f1]))))
      (fun vs _ => match vs with | [_, _, _, .int _ j] => q.length - j.toNat | _ => 0) (by rfl) (by rfl) (by rfl) (by rfl) ⟨0, Nat.zero_le _, rfl, .inl ⟨rfl, rfl⟩⟩ ?_
    rintro vs H1 ⟨j, hj, rfl, ⟨rfl, rfl⟩ | ⟨hj0, rfl⟩⟩
    · conv => whnf
      cases hd : decide (((0 : Nat) : Int) < q.length)
      · conv => whnf
        have := of_decide_eq_false hd
        have hq0 : q = [] := List.length_eq_zero_iff.1 (by omega)
        exact end_of [0, 1, 2, 3, 4, 5] (by rfl) (by rfl) (by rfl) ⟨rfl, .inl ⟨hq0, rfl⟩⟩
      · conv => whnf
        have := of_decide_eq_true hd
        have hy : q[0]? = some (q.getD 0 (S.zero .vt)) := getD_at (by omega) _
        refine ⟨rfl, by omega, by omega, ?_⟩
        conv => whnf
        refine ⟨by show 0 < q.length; omega, by decide, ?_⟩
        rw [show Int.toNat ((0 : Nat) : Int) = 0 from rfl]
        generalize q.getD 0 (S.zero .vt) = y at hy
        conv => whnf
        refine call_of [0, 1, 2, 3, 4, 5] (c_pushV_WB m y hm (by omega)) (by rfl) (by rfl) ?_
        conv => whnf
        refine ⟨[0, 1, 2, 3, 4, 5, 7], [], relo_of [0, 1, 2, 3, 4, 5, 7] (by rfl) (by rfl), ?_⟩
        refine ⟨⟨1, by omega, rfl, .inr ⟨by omega, ?_⟩⟩, ?_⟩
        · rw [show q.take 1 = [y] by rw [take_succ' hy]; rfl]; rfl
        · show q.length - 1 < q.length - 0
          omega
    · conv => whnf
      cases hd : decide ((j : Int) < q.length)
      · conv => whnf
        have := of_decide_eq_false hd
        obtain rfl : j = q.length := by omega
        rw [List.take_length]
        exact end_of [0, 1, 2, 3, 4, 5, 6] (by rfl) (by rfl) (by rfl) ⟨rfl, .inr ⟨by rintro rfl; simp at hj0, rfl⟩⟩
      · conv => whnf
        have := of_decide_eq_true hd
        have hy := getD_at (show j < q.length by omega) (S.zero .vt)
        refine ⟨rfl, by omega, by omega, ?_⟩
        conv => whnf
        refine ⟨by rw [Int.toNat_natCast]; omega, by decide, ?_⟩
        rw [Int.toNat_natCast]
        generalize q.getD j (S.zero .vt) = y at hy
        conv => whnf
        have hw : IntKind.i64.wrap ((j : Int) + 1) = ((j + 1 : Nat) : Int) := wrap_i64 (by omega) (by omega)
        have k := c_pushV_WB (l := l) (lo := lo) (se := se) (re := re) (op := op.take m ++ q.take j) (f0 := f0) (f1 := f1) (op.take m ++ q.take j).length y (Nat.le_refl _) (by simp; omega)
        rw [List.take_length] at k
        refine call_of [0, 1, 2, 3, 6, 5] (k) (by rfl) (by rfl) ?_
        conv => whnf
        refine ⟨[0, 1, 2, 3, 4, 5, 8], [], relo_of [0, 1, 2, 3, 4, 5, 8] (by rfl) (by rfl), ?_⟩
        refine ⟨⟨j + 1, by omega, congrArg (puV q) hw, .inr ⟨by omega, ?_⟩⟩, ?_⟩
        · rw [take_succ' hy, ← List.append_assoc]; rfl
        · show q.length - (IntKind.i64.wrap ((j : Int) + 1)).toNat < q.length - (j : Int).toNat
          rw [hw]; omega
  refine ⟨fun h0 => key.mono ?_, fun h0 => key.mono ?_⟩
  · rintro r H ⟨rfl, ⟨_, rfl⟩ | ⟨h1, _⟩⟩
    · exact ⟨rfl, rfl⟩
    · exact absurd h0 h1
  · rintro r H ⟨rfl, ⟨h1, _⟩ | ⟨_, rfl⟩⟩
    · exact absurd h1 h0
    · exact ⟨rfl, rfl⟩

set_option maxRecDepth 100000 in
theorem c_Pushes_FB {f0 f1 : El_frame} (m : Nat) (q : List El_vt) (hm : m ≤ op.length) (hl : m ≤ 2000000) (hq : q.length ≤ 1048576) :
    (q = [] → SpecD S 15 [.ptr 0 0, .imm .vt q] (ck l lo se re (.own .vt 4 0 m .full) (.own .frame 5 0 2 .whole) op [f0, f1]) (.int .i64 0) (ck l lo se re (.own .vt 4 0 m .full) (.own .frame 5 0 2 .whole) op [f0, f1])) ∧ (q ≠ [] → SpecD S 15 [.ptr 0 0, .imm .vt q] (ck l lo se re (.own .vt 4 0 m .full) (.own .frame 5 0 2 .whole) op [f0, f1]) (.int .i64 0) (ckM l lo se re (.row .vt op) (.own .frame 5 0 2 .whole) (op.take m ++ q) [f0, f1])) := by
  have key : Spec S 15 [.ptr 0 0, .imm .vt q] (ck l lo se re (.own .vt 4 0 m .full) (.own .frame 5 0 2 .whole) op [f0, f1]) fun r H => r = .int .i64 0 ∧ ((q = [] ∧ H = (ck l lo se re (.own .vt 4 0 m .full) (.own .frame 5 0 2 .whole) op [f0, f1])) ∨ (q ≠ [] ∧ H = (ckM l lo se re (.row .vt op) (.own .frame 5 0 2 .whole) (op.take m ++ q) [f0, f1]))) := by
    refine specE ok sh15 rfl ?_
    conv => whnf
    refine call_of [0, 1, 2, 3, 4, 5] (c_shut_FB m) (by rfl) (by rfl) ?_
    conv => whnf
    refine loop_of [] [0, 1, 2, 3, 4, 5] (fun vs H => ∃ j : Nat, j ≤ q.length ∧ vs = puV q j ∧ ((j = 0 ∧ H = (ck l lo se re (.own .vt 4 0 m .full) (.own .frame 5 0 2 .whole) op [f0, f1])) ∨ (0 < j ∧ H = (ckM l lo se re (.row .vt op) (.own .frame 5 0 2 .whole) (op.take m ++ q.take j) [f0, f1]))))
      (fun vs _ => match vs with | [_, _, _, .int _ j] => q.length - j.toNat | _ => 0) (by rfl) (by rfl) (by rfl) (by rfl) ⟨0, Nat.zero_le _, rfl, .inl ⟨rfl, rfl⟩⟩ ?_
    rintro vs H1 ⟨j, hj, rfl, ⟨rfl, rfl⟩ | ⟨hj0, rfl⟩⟩
    · conv => whnf
      cases hd : decide (((0 : Nat) : Int) < q.length)
      · conv => whnf
        have := of_decide_eq_false hd
        have hq0 : q = [] := List.length_eq_zero_iff.1 (by omega)
        exact end_of [0, 1, 2, 3, 4, 5] (by rfl) (by rfl) (by rfl) ⟨rfl, .inl ⟨hq0, rfl⟩⟩
      · conv => whnf
        have := of_decide_eq_true hd
        have hy : q[0]? = some (q.getD 0 (S.zero .vt)) := getD_at (by omega) _
        refine ⟨rfl, by omega, by omega, ?_⟩
        conv => whnf
        refine ⟨by show 0 < q.length; omega, by decide, ?_⟩
        rw [show Int.toNat ((0 : Nat) : Int) = 0 from rfl]
        generalize q.getD 0 (S.zero .vt) = y at hy
        conv => whnf
        refine call_of [0, 1, 2, 3, 4, 5] (c_pushV_FB m y hm (by omega)) (by rfl) (by rfl) ?_
        conv => whnf
        refine ⟨[0, 1, 2, 3, 4, 5, 7], [], relo_of [0, 1, 2, 3, 4, 5, 7] (by rfl) (by rfl), ?_⟩
        refine ⟨⟨1, by omega, rfl, .inr ⟨by omega, ?_⟩⟩, ?_⟩
        · rw [show q.take 1 = [y] by rw [take_succ' hy]; rfl]; rfl
        · show q.length - 1 < q.length - 0
          omega
    · conv => whnf
      cases hd : decide ((j : Int) < q.length)
      · conv => whnf
        have := of_decide_eq_false hd
        obtain rfl : j = q.length := by omega
        rw [List.take_length]
        exact end_of [0, 1, 2, 3, 4, 5, 6] (by rfl) (by rfl) (by rfl) ⟨rfl, .inr ⟨by rintro rfl; simp at hj0, rfl⟩⟩
      · conv => whnf
        have := of_decide_eq_true hd
        have hy := getD_at (show j < q.length by omega) (S.zero .vt)
        refine ⟨rfl, by omega, by omega, ?_⟩
        conv => whnf
        refine ⟨by rw [Int.toNat_natCast]; omega, by decide, ?_⟩
        rw [Int.toNat_natCast]
        generalize q.getD j (S.zero .vt) = y at hy
        conv => whnf
        have hw : IntKind.i64.wrap ((j : Int) + 1) = ((j + 1 : Nat) : Int) := wrap_i64 (by omega) (by omega)
        have k := c_pushV_WB (l := l) (lo := lo) (se := se) (re := re) (op := op.take m ++ q.take j) (f0 := f0) (f1 := f1) (op.take m ++ q.take j).length y (Nat.le_refl _) (by simp; omega)
        rw [List.take_length] at k
        refine call_of [0, 1, 2, 3, 6, 5] (k) (by rfl) (by rfl) ?_
        conv => whnf
        refine ⟨[0, 1, 2, 3, 4, 5, 8], [], relo_of [0, 1, 2, 3, 4, 5, 8] (by rfl) (by rfl), ?_⟩
        refine ⟨⟨j + 1, by omega, congrArg (puV q) hw, .inr ⟨by omega, ?_⟩⟩, ?_⟩
        · rw [take_succ' hy, ← List.append_assoc]; rfl
        · show q.length - (IntKind.i64.wrap ((j : Int) + 1)).toNat < q.length - (j : Int).toNat
          rw [hw]; omega
  refine ⟨fun h0 => key.mono ?_, fun h0 => key.mono ?_⟩
  · rintro r H ⟨rfl, ⟨_, rfl⟩ | ⟨h1, _⟩⟩
    · exact ⟨rfl, rfl⟩
    · exact absurd h0 h1
  · rintro r H ⟨rfl, ⟨h1, _⟩ | ⟨_, rfl⟩⟩
    · exact absurd h1 h0
    · exact ⟨rfl, rfl⟩

end Sh
end Go.Proofs.YtlnloekadohddaaDoor
