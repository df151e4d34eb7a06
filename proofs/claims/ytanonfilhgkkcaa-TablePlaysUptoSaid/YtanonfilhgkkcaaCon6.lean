/- MADE BY PROGRAM (con6gen.py): what the functions of tables compute, part 6: growing. -/
import Derived.Test.YtanonfilhgkkcaaCon5
namespace Go.Proofs.Ytanonfilhgkkcaa
open Go
namespace Sh

theorem rep_succ (L : List Val) (v : Val) (j : Nat) : (L ++ List.replicate j v).take (L.length + j) ++ [v] = L ++ List.replicate (j + 1) v := by
  rw [List.take_of_length_le (by simp), List.append_assoc, List.replicate_succ']

/-- The heap of a table that has grown by j. -/
def grH (c : V → TT → AO KT ElT) (L : List Val) (T : TT) (v : Val) (j : Nat) (H : Heap KT ElT) : Prop :=
  (j = 0 ∧ H = [c (.own .value 1 0 L.length .whole) T, .row .value L, .cells (encVal v)]) ∨
  (0 < j ∧ H = [c (.own .value 3 0 (L.length + j) .whole) T, .gone, .cells (encVal v), .row .value (L ++ List.replicate j v)])

set_option maxRecDepth 100000 in
theorem c_add (L : List Val) (T : TT) (n : Nat) (v : Val) (hl : L.length ≤ 65536) (hn : n ≤ 65536) :
    (n = 0 → SpecD S 47 [.ptr 0 0, .int .u64 n, .agg (encVal v)] [tab (.own .value 1 0 L.length .whole) T, .row .value L] (.tup []) [tab (.own .value 1 0 L.length .whole) T, .row .value L]) ∧
    (0 < n → SpecD S 47 [.ptr 0 0, .int .u64 n, .agg (encVal v)] [tab (.own .value 1 0 L.length .whole) T, .row .value L] (.tup []) [tab (.own .value 2 0 (L.length + n) .whole) T, .gone, .row .value (L ++ List.replicate n v)]) := by
  have key : Spec S 47 [.ptr 0 0, .int .u64 n, .agg (encVal v)] [tab (.own .value 1 0 L.length .whole) T, .row .value L] fun r H => r = (.tup []) ∧ ((n = 0 ∧ H = [tab (.own .value 1 0 L.length .whole) T, .row .value L]) ∨ (0 < n ∧ H = [tab (.own .value 2 0 (L.length + n) .whole) T, .gone, .row .value (L ++ List.replicate n v)])) := by
    refine specE ok sh47 rfl ?_
    conv => whnf
    refine loop_of [] [0, 1, 2] (fun vs H => ∃ j : Nat, j ≤ n ∧ vs = ([.ptr 0 0, .ptr 2 0, .int .u64 n, .int .u64 (j : Int)] : List V) ∧ grH tab L T v j H)
      (fun vs _ => match vs with | [_, _, _, .int _ j] => n - j.toNat | _ => 0) (by rfl) (by rfl) (by rfl) (by rfl) ⟨0, Nat.zero_le _, rfl, .inl ⟨rfl, rfl⟩⟩ ?_
    rintro vs H1 ⟨j, hj, rfl, hH⟩
    rcases hH with ⟨rfl, rfl⟩ | ⟨hj0, rfl⟩
    · conv => whnf
      cases hd : decide (((0 : Nat) : Int) < n)
      · conv => whnf
        have := of_decide_eq_false hd
        obtain rfl : n = 0 := by omega
        refine end_of [0, 1] (by rfl) (by rfl) (by rfl) ⟨rfl, .inl ⟨rfl, rfl⟩⟩
      · conv => whnf
        refine And.intro (by repeat first | exact trivial | refine And.intro (by first | rfl | exact trivial) ?_) ?_
        conv => whnf
        refine ⟨rfl, by simp, ?_⟩
        conv => whnf
        refine ⟨rfl, by simp, ⟨by unfold maxLen; simp; omega, by simp [S]; omega⟩, rfl, ?_⟩
        conv => whnf
        refine And.intro (by repeat first | exact trivial | refine And.intro (by first | rfl | exact trivial) ?_) ?_
        conv => whnf
        have := of_decide_eq_true hd
        refine ⟨[0, 1, 2, 4], [], relo_of [0, 1, 2, 4] (by rfl) (by rfl), ?_⟩
        refine ⟨⟨1, by omega, rfl, .inr ⟨by omega, ?_⟩⟩, ?_⟩
        · have := rep_succ L v 0
          simp only [List.replicate_zero, List.append_nil, Nat.add_zero] at this
          rw [← this]; rfl
        · show n - 1 < n - 0
          omega
    · conv => whnf
      cases hd : decide ((j : Int) < n)
      · conv => whnf
        have := of_decide_eq_false hd
        obtain rfl : j = n := by omega
        refine end_of [0, 1, 3] (by rfl) (by rfl) (by rfl) ⟨rfl, .inr ⟨hj0, rfl⟩⟩
      · conv => whnf
        refine And.intro (by repeat first | exact trivial | refine And.intro (by first | rfl | exact trivial) ?_) ?_
        conv => whnf
        refine ⟨rfl, by simp, ?_⟩
        conv => whnf
        refine ⟨rfl, by simp, ⟨by unfold maxLen; simp; omega, by simp [S]; omega⟩, rfl, ?_⟩
        conv => whnf
        refine And.intro (by repeat first | exact trivial | refine And.intro (by first | rfl | exact trivial) ?_) ?_
        conv => whnf
        have := of_decide_eq_true hd
        have hw : IntKind.u64.wrap ((j : Int) + 1) = ((j + 1 : Nat) : Int) := wrap_u64 (by omega) (by omega)
        refine ⟨[0, 1, 2, 5], [], relo_of [0, 1, 2, 5] (by rfl) (by rfl), ?_⟩
        refine ⟨⟨j + 1, by omega, congrArg (fun x => ([.ptr 0 0, .ptr 2 0, .int .u64 n, .int .u64 x] : List V)) hw, .inr ⟨by omega, ?_⟩⟩, ?_⟩
        · rw [← rep_succ L v j]; rfl
        · show n - (IntKind.u64.wrap ((j : Int) + 1)).toNat < n - (j : Int).toNat
          rw [hw]; omega
  refine ⟨fun h0 => key.mono ?_, fun h0 => key.mono ?_⟩
  · rintro r H ⟨rfl, ⟨_, rfl⟩ | ⟨h1, _⟩⟩
    · exact ⟨rfl, rfl⟩
    · omega
  · rintro r H ⟨rfl, ⟨h1, _⟩ | ⟨_, rfl⟩⟩
    · omega
    · exact ⟨rfl, rfl⟩

/-! ### Grow -/
def grOK (L : List Val) (T : TT) (n : Nat) (v : Val) (most : Nat) : Prop := v.type = 5 ∧ n ≤ most ∧ L.length + n ≤ 65536 ∧ (T.g = true → ((L.length + n : Nat) : Int) ≤ T.f)
def grP (c : V → TT → AO KT ElT) (L : List Val) (T : TT) (n : Nat) (v : Val) (most : Nat) (r : V) (H : Heap KT ElT) : Prop :=
  (¬ grOK L T n v most ∧ r = .tup [.int .u64 0, .bool false] ∧ H = [c (.own .value 1 0 L.length .whole) T, .row .value L]) ∨
  (grOK L T n v most ∧ r = .tup [.int .u64 L.length, .bool true] ∧ n = 0 ∧ H = [c (.own .value 1 0 L.length .whole) T, .row .value L]) ∨
  (grOK L T n v most ∧ r = .tup [.int .u64 L.length, .bool true] ∧ 0 < n ∧ H = [c (.own .value 2 0 (L.length + n) .whole) T, .gone, .row .value (L ++ List.replicate n v)])

set_option maxRecDepth 100000 in
theorem c_Grow (L : List Val) (T : TT) (n : Nat) (v : Val) (most : Nat) (hl : L.length ≤ 65536) :
    Spec S 34 [.ptr 0 0, .int .u64 n, .agg (encVal v), .int .u64 most] (tH L T) (grP tab L T n v most) := by
  have add : ∀ T : TT, grOK L T n v most → Spec S 34 [.ptr 0 0, .int .u64 n, .agg (encVal v), .int .u64 most] (tH L T) (grP tab L T n v most) := by
    rintro ⟨ta, tb, tc, td, te, tf, g⟩ ⟨k1, k2, k3, k4⟩
    have gok : grOK L ⟨ta, tb, tc, td, te, tf, g⟩ n v most := ⟨k1, k2, k3, k4⟩
    obtain ⟨q0, qS⟩ := c_add L ⟨ta, tb, tc, td, te, tf, g⟩ n v hl (by omega)
    have hw : IntKind.u64.wrap (65536 - (L.length : Int)) = ((65536 - L.length : Nat) : Int) := (wrap_u64 (by omega) (by omega)).trans (by omega)
    have hw2 : IntKind.u64.wrap ((L.length : Int) + n) = ((L.length + n : Nat) : Int) := wrap_u64 (by omega) (by omega)
    refine specE ok sh34 rfl ?_
    conv => whnf
    refine call_of [0, 1] (c_Size L _ (by omega)) (by rfl) (by rfl) ?_
    conv => whnf
    refine call_of [0, 1] (c_none L.length _ L) (by rfl) (by rfl) ?_
    conv => whnf
    refine call_of [] (c_isRef v) (by rfl) (by rfl) ?_
    conv => whnf
    rw [show (v.type == 5) = true by rw [k1]; rfl]
    conv => whnf
    rw [show decide ((most : Int) < n) = false from decide_eq_false (by omega)]
    conv => whnf
    rw [hw, show decide (((65536 - L.length : Nat) : Int) < n) = false from decide_eq_false (by omega)]
    conv => whnf
    cases g
    · conv => whnf
      rcases Nat.eq_zero_or_pos n with h | h
      · refine call_of [0, 1] (q0 h) (by rfl) (by rfl) ?_
        conv => whnf
        exact end_of [0, 1] (by rfl) (by rfl) (by rfl) (.inr (.inl ⟨gok, rfl, h, rfl⟩))
      · refine call_of [0, 1] (qS h) (by rfl) (by rfl) ?_
        conv => whnf
        exact end_of [0, 1, 4] (by rfl) (by rfl) (by rfl) (.inr (.inr ⟨gok, rfl, h, rfl⟩))
    · have := k4 rfl
      simp only at this
      conv => whnf
      rw [hw2, show decide (tf < ((L.length + n : Nat) : Int)) = false from decide_eq_false (by omega)]
      conv => whnf
      rcases Nat.eq_zero_or_pos n with h | h
      · refine call_of [0, 1] (q0 h) (by rfl) (by rfl) ?_
        conv => whnf
        exact end_of [0, 1] (by rfl) (by rfl) (by rfl) (.inr (.inl ⟨gok, rfl, h, rfl⟩))
      · refine call_of [0, 1] (qS h) (by rfl) (by rfl) ?_
        conv => whnf
        exact end_of [0, 1, 4] (by rfl) (by rfl) (by rfl) (.inr (.inr ⟨gok, rfl, h, rfl⟩))
  by_cases gok : grOK L T n v most
  · exact add T gok
  obtain ⟨ta, tb, tc, td, te, tf, g⟩ := T
  have hw : IntKind.u64.wrap (65536 - (L.length : Int)) = ((65536 - L.length : Nat) : Int) := (wrap_u64 (by omega) (by omega)).trans (by omega)
  refine specE ok sh34 rfl ?_
  conv => whnf
  refine call_of [0, 1] (c_Size L _ (by omega)) (by rfl) (by rfl) ?_
  conv => whnf
  refine call_of [0, 1] (c_none L.length _ L) (by rfl) (by rfl) ?_
  conv => whnf
  refine call_of [] (c_isRef v) (by rfl) (by rfl) ?_
  conv => whnf
  cases hv : v.type == 5
  · conv => whnf
    exact end_of [0, 1] (by rfl) (by rfl) (by rfl) (.inl ⟨gok, rfl, rfl⟩)
  conv => whnf
  cases h1 : decide ((most : Int) < n)
  rotate_left
  · conv => whnf
    exact end_of [0, 1] (by rfl) (by rfl) (by rfl) (.inl ⟨gok, rfl, rfl⟩)
  conv => whnf
  rw [hw]
  cases h2 : decide (((65536 - L.length : Nat) : Int) < n)
  rotate_left
  · conv => whnf
    exact end_of [0, 1] (by rfl) (by rfl) (by rfl) (.inl ⟨gok, rfl, rfl⟩)
  conv => whnf
  have h1' := of_decide_eq_false h1
  have h2' := of_decide_eq_false h2
  have h5 : v.type = 5 := (t5 hv).2 rfl
  cases g
  · exact absurd ⟨h5, by omega, by omega, fun h => by cases h⟩ gok
  conv => whnf
  have hw2 : IntKind.u64.wrap ((L.length : Int) + n) = ((L.length + n : Nat) : Int) := wrap_u64 (by omega) (by omega)
  rw [hw2]
  cases h3 : decide (tf < ((L.length + n : Nat) : Int))
  · exact absurd ⟨h5, by omega, by omega, fun _ => by have := of_decide_eq_false h3; simp only; omega⟩ gok
  conv => whnf
  exact end_of [0, 1] (by rfl) (by rfl) (by rfl) (.inl ⟨gok, rfl, rfl⟩)

set_option maxRecDepth 100000 in
theorem c_rGrow (L : List Val) (T : TT) (n : Nat) (v : Val) (most : Nat) (hl : L.length ≤ 65536) (hn : n ≤ 18446744073709551615) :
    Spec S 65 [.ptr 0 0, .int .u64 n, .agg (encVal v), .int .u64 most] (rH L T) (grP rtab L T n v most) := by
  obtain ⟨ta, tb, tc, td, te, tf, g⟩ := T
  by_cases gok : grOK L ⟨ta, tb, tc, td, te, tf, g⟩ n v most
  rotate_left
  · refine specE ok sh65 rfl ?_
    conv => whnf
    cases hv : v.type == 5
    · simp only [bne, hv]
      conv => whnf
      exact end_of [0, 1] (by rfl) (by rfl) (by rfl) (.inl ⟨gok, rfl, rfl⟩)
    simp only [bne, hv]
    conv => whnf
    cases h1 : decide ((most : Int) < n)
    rotate_left
    · conv => whnf
      exact end_of [0, 1] (by rfl) (by rfl) (by rfl) (.inl ⟨gok, rfl, rfl⟩)
    conv => whnf
    cases h2 : decide ((65536 : Int) < n)
    rotate_left
    · conv => whnf
      exact end_of [0, 1] (by rfl) (by rfl) (by rfl) (.inl ⟨gok, rfl, rfl⟩)
    conv => whnf
    have h1' := of_decide_eq_false h1
    have h2' := of_decide_eq_false h2
    have h5 : v.type = 5 := (t5 hv).2 rfl
    have hw2 : IntKind.u64.wrap ((L.length : Int) + n) = ((L.length + n : Nat) : Int) := wrap_u64 (by omega) (by omega)
    rw [show IntKind.u64.wrap (L.length : Int) = L.length from wrap_u64 (by omega) (by omega)]
    rw [hw2]
    cases h3 : decide ((65536 : Int) < ((L.length + n : Nat) : Int))
    rotate_left
    · conv => whnf
      exact end_of [0, 1] (by rfl) (by rfl) (by rfl) (.inl ⟨gok, rfl, rfl⟩)
    conv => whnf
    have h3' := of_decide_eq_false h3
    cases g
    · exact absurd ⟨h5, by omega, by omega, fun h => by cases h⟩ gok
    conv => whnf
    rw [hw2]
    cases h4 : decide (tf < ((L.length + n : Nat) : Int))
    · exact absurd ⟨h5, by omega, by omega, fun _ => by have := of_decide_eq_false h4; simp only; omega⟩ gok
    conv => whnf
    exact end_of [0, 1] (by rfl) (by rfl) (by rfl) (.inl ⟨gok, rfl, rfl⟩)
  obtain ⟨k1, k2, k3, k4⟩ := gok
  have gok : grOK L ⟨ta, tb, tc, td, te, tf, g⟩ n v most := ⟨k1, k2, k3, k4⟩
  have hw2 : IntKind.u64.wrap ((L.length : Int) + n) = ((L.length + n : Nat) : Int) := wrap_u64 (by omega) (by omega)
  refine specE ok sh65 rfl ?_
  conv => whnf
  rw [show (v.type != 5) = false by rw [k1]; rfl]
  conv => whnf
  rw [show decide ((most : Int) < n) = false from decide_eq_false (by omega)]
  conv => whnf
  rw [show decide ((65536 : Int) < n) = false from decide_eq_false (by omega)]
  conv => whnf
  rw [show IntKind.u64.wrap (L.length : Int) = L.length from wrap_u64 (by omega) (by omega)]
  rw [hw2, show decide ((65536 : Int) < ((L.length + n : Nat) : Int)) = false from decide_eq_false (by omega)]
  conv => whnf
  cases g
  rotate_left
  · have := k4 rfl
    simp only at this
    conv => whnf
    rw [hw2, show decide (tf < ((L.length + n : Nat) : Int)) = false from decide_eq_false (by omega)]
    conv => whnf
    refine loop_of [] [0, 1, 2] (fun vs H => ∃ j : Nat, j ≤ n ∧ vs = ([.ptr 0 0, .int .u64 n, .ptr 2 0, .int .u64 L.length, .int .u64 (j : Int)] : List V) ∧ grH rtab L ⟨ta, tb, tc, td, te, tf, true⟩ v j H)
      (fun vs _ => match vs with | [_, _, _, _, .int _ j] => n - j.toNat | _ => 0) (by rfl) (by rfl) (by rfl) (by rfl) ⟨0, Nat.zero_le _, rfl, .inl ⟨rfl, rfl⟩⟩ ?_
    rintro vs H1 ⟨j, hj, rfl, hH⟩
    rcases hH with ⟨rfl, rfl⟩ | ⟨hj0, rfl⟩
    · conv => whnf
      cases hd : decide (((0 : Nat) : Int) < n)
      · conv => whnf
        have := of_decide_eq_false hd
        obtain rfl : n = 0 := by omega
        refine end_of [0, 1] (by rfl) (by rfl) (by rfl) (.inr (.inl ⟨gok, rfl, rfl, rfl⟩))
      · conv => whnf
        refine And.intro (by repeat first | exact trivial | refine And.intro (by first | rfl | exact trivial) ?_) ?_
        conv => whnf
        refine ⟨rfl, by simp, ?_⟩
        conv => whnf
        refine ⟨rfl, by simp, ⟨by unfold maxLen; simp; omega, by simp [S]; omega⟩, rfl, ?_⟩
        conv => whnf
        refine And.intro (by repeat first | exact trivial | refine And.intro (by first | rfl | exact trivial) ?_) ?_
        conv => whnf
        have := of_decide_eq_true hd
        refine ⟨[0, 1, 2, 4], [], relo_of [0, 1, 2, 4] (by rfl) (by rfl), ?_⟩
        refine ⟨⟨1, by omega, rfl, .inr ⟨by omega, ?_⟩⟩, ?_⟩
        · have := rep_succ L v 0
          simp only [List.replicate_zero, List.append_nil, Nat.add_zero] at this
          rw [← this]; rfl
        · show n - 1 < n - 0
          omega
    · conv => whnf
      cases hd : decide ((j : Int) < n)
      · conv => whnf
        have := of_decide_eq_false hd
        obtain rfl : j = n := by omega
        refine end_of [0, 1, 3] (by rfl) (by rfl) (by rfl) (.inr (.inr ⟨gok, rfl, hj0, rfl⟩))
      · conv => whnf
        refine And.intro (by repeat first | exact trivial | refine And.intro (by first | rfl | exact trivial) ?_) ?_
        conv => whnf
        refine ⟨rfl, by simp, ?_⟩
        conv => whnf
        refine ⟨rfl, by simp, ⟨by unfold maxLen; simp; omega, by simp [S]; omega⟩, rfl, ?_⟩
        conv => whnf
        refine And.intro (by repeat first | exact trivial | refine And.intro (by first | rfl | exact trivial) ?_) ?_
        conv => whnf
        have := of_decide_eq_true hd
        have hw : IntKind.u64.wrap ((j : Int) + 1) = ((j + 1 : Nat) : Int) := wrap_u64 (by omega) (by omega)
        refine ⟨[0, 1, 2, 5], [], relo_of [0, 1, 2, 5] (by rfl) (by rfl), ?_⟩
        refine ⟨⟨j + 1, by omega, congrArg (fun x => ([.ptr 0 0, .int .u64 n, .ptr 2 0, .int .u64 L.length, .int .u64 x] : List V)) hw, .inr ⟨by omega, ?_⟩⟩, ?_⟩
        · rw [← rep_succ L v j]; rfl
        · show n - (IntKind.u64.wrap ((j : Int) + 1)).toNat < n - (j : Int).toNat
          rw [hw]; omega
  · conv => whnf
    refine loop_of [] [0, 1, 2] (fun vs H => ∃ j : Nat, j ≤ n ∧ vs = ([.ptr 0 0, .int .u64 n, .ptr 2 0, .int .u64 L.length, .int .u64 (j : Int)] : List V) ∧ grH rtab L ⟨ta, tb, tc, td, te, tf, false⟩ v j H)
      (fun vs _ => match vs with | [_, _, _, _, .int _ j] => n - j.toNat | _ => 0) (by rfl) (by rfl) (by rfl) (by rfl) ⟨0, Nat.zero_le _, rfl, .inl ⟨rfl, rfl⟩⟩ ?_
    rintro vs H1 ⟨j, hj, rfl, hH⟩
    rcases hH with ⟨rfl, rfl⟩ | ⟨hj0, rfl⟩
    · conv => whnf
      cases hd : decide (((0 : Nat) : Int) < n)
      · conv => whnf
        have := of_decide_eq_false hd
        obtain rfl : n = 0 := by omega
        refine end_of [0, 1] (by rfl) (by rfl) (by rfl) (.inr (.inl ⟨gok, rfl, rfl, rfl⟩))
      · conv => whnf
        refine And.intro (by repeat first | exact trivial | refine And.intro (by first | rfl | exact trivial) ?_) ?_
        conv => whnf
        refine ⟨rfl, by simp, ?_⟩
        conv => whnf
        refine ⟨rfl, by simp, ⟨by unfold maxLen; simp; omega, by simp [S]; omega⟩, rfl, ?_⟩
        conv => whnf
        refine And.intro (by repeat first | exact trivial | refine And.intro (by first | rfl | exact trivial) ?_) ?_
        conv => whnf
        have := of_decide_eq_true hd
        refine ⟨[0, 1, 2, 4], [], relo_of [0, 1, 2, 4] (by rfl) (by rfl), ?_⟩
        refine ⟨⟨1, by omega, rfl, .inr ⟨by omega, ?_⟩⟩, ?_⟩
        · have := rep_succ L v 0
          simp only [List.replicate_zero, List.append_nil, Nat.add_zero] at this
          rw [← this]; rfl
        · show n - 1 < n - 0
          omega
    · conv => whnf
      cases hd : decide ((j : Int) < n)
      · conv => whnf
        have := of_decide_eq_false hd
        obtain rfl : j = n := by omega
        refine end_of [0, 1, 3] (by rfl) (by rfl) (by rfl) (.inr (.inr ⟨gok, rfl, hj0, rfl⟩))
      · conv => whnf
        refine And.intro (by repeat first | exact trivial | refine And.intro (by first | rfl | exact trivial) ?_) ?_
        conv => whnf
        refine ⟨rfl, by simp, ?_⟩
        conv => whnf
        refine ⟨rfl, by simp, ⟨by unfold maxLen; simp; omega, by simp [S]; omega⟩, rfl, ?_⟩
        conv => whnf
        refine And.intro (by repeat first | exact trivial | refine And.intro (by first | rfl | exact trivial) ?_) ?_
        conv => whnf
        have := of_decide_eq_true hd
        have hw : IntKind.u64.wrap ((j : Int) + 1) = ((j + 1 : Nat) : Int) := wrap_u64 (by omega) (by omega)
        refine ⟨[0, 1, 2, 5], [], relo_of [0, 1, 2, 5] (by rfl) (by rfl), ?_⟩
        refine ⟨⟨j + 1, by omega, congrArg (fun x => ([.ptr 0 0, .int .u64 n, .ptr 2 0, .int .u64 L.length, .int .u64 x] : List V)) hw, .inr ⟨by omega, ?_⟩⟩, ?_⟩
        · rw [← rep_succ L v j]; rfl
        · show n - (IntKind.u64.wrap ((j : Int) + 1)).toNat < n - (j : Int).toNat
          rw [hw]; omega

end Sh
end Go.Proofs.Ytanonfilhgkkcaa
