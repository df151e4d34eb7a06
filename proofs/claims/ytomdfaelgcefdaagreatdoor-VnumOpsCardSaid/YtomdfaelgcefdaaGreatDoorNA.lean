/- MADE BY PROGRAM (vn.py): which step an opcode has. -/
import Derived.Test.YtomdfaelgcefdaaGreatDoorVC
namespace Go.Proofs.YtomdfaelgcefdaaGreatDoor
open Go
namespace Sh
def kdI (op : Int) : Int :=
  if (64524 ≤ op ∧ op ≤ 64529) ∨ op = 37 ∨ op = 38 then 3 else if op = 63 ∨ op = 64 ∨ (64520 ≤ op ∧ op ≤ 64523) then 2 else if (65 ≤ op ∧ op ≤ 196) ∨ (64512 ≤ op ∧ op ≤ 64519) then 1 else 0

set_option maxRecDepth 100000 in
set_option maxHeartbeats 4000000 in
theorem c_kind (op : Int) : SpecD S 130 [.int .i64 op] [] (.int .i64 (kdI op)) [] := by
  refine specE ok sh130 rfl ?_
  conv => whnf
  cases h0 : decide (64524 ≤ op)
  · have h0p := of_decide_eq_false h0
    conv => whnf
    cases h1 : (op == 37)
    · have h1p : ¬ op = 37 := by simpa using h1
      conv => whnf
      cases h2 : (op == 38)
      · have h2p : ¬ op = 38 := by simpa using h2
        conv => whnf
        cases h3 : (op == 63)
        · have h3p : ¬ op = 63 := by simpa using h3
          conv => whnf
          cases h4 : (op == 64)
          · have h4p : ¬ op = 64 := by simpa using h4
            conv => whnf
            cases h5 : decide (64520 ≤ op)
            · have h5p := of_decide_eq_false h5
              conv => whnf
              cases h6 : decide (65 ≤ op)
              · have h6p := of_decide_eq_false h6
                conv => whnf
                cases h7 : decide (64512 ≤ op)
                · have h7p := of_decide_eq_false h7
                  conv => whnf
                  exact end_of [] (by rfl) (by rfl) (by rfl) ⟨congrArg (AV.int .i64) (show (0 : Int) = kdI op by unfold kdI; split <;> first | omega | skip; all_goals (split <;> first | omega | skip); all_goals (split <;> omega)), rfl⟩
                · have h7p := of_decide_eq_true h7
                  conv => whnf
                  cases h8 : decide (op ≤ 64519)
                  · have h8p := of_decide_eq_false h8
                    conv => whnf
                    exact end_of [] (by rfl) (by rfl) (by rfl) ⟨congrArg (AV.int .i64) (show (0 : Int) = kdI op by unfold kdI; split <;> first | omega | skip; all_goals (split <;> first | omega | skip); all_goals (split <;> omega)), rfl⟩
                  · have h8p := of_decide_eq_true h8
                    conv => whnf
                    exact end_of [] (by rfl) (by rfl) (by rfl) ⟨congrArg (AV.int .i64) (show (1 : Int) = kdI op by unfold kdI; split <;> first | omega | skip; all_goals (split <;> first | omega | skip); all_goals (split <;> omega)), rfl⟩
              · have h6p := of_decide_eq_true h6
                conv => whnf
                cases h7 : decide (op ≤ 196)
                · have h7p := of_decide_eq_false h7
                  conv => whnf
                  cases h8 : decide (64512 ≤ op)
                  · have h8p := of_decide_eq_false h8
                    conv => whnf
                    exact end_of [] (by rfl) (by rfl) (by rfl) ⟨congrArg (AV.int .i64) (show (0 : Int) = kdI op by unfold kdI; split <;> first | omega | skip; all_goals (split <;> first | omega | skip); all_goals (split <;> omega)), rfl⟩
                  · have h8p := of_decide_eq_true h8
                    conv => whnf
                    cases h9 : decide (op ≤ 64519)
                    · have h9p := of_decide_eq_false h9
                      conv => whnf
                      exact end_of [] (by rfl) (by rfl) (by rfl) ⟨congrArg (AV.int .i64) (show (0 : Int) = kdI op by unfold kdI; split <;> first | omega | skip; all_goals (split <;> first | omega | skip); all_goals (split <;> omega)), rfl⟩
                    · have h9p := of_decide_eq_true h9
                      conv => whnf
                      exact end_of [] (by rfl) (by rfl) (by rfl) ⟨congrArg (AV.int .i64) (show (1 : Int) = kdI op by unfold kdI; split <;> first | omega | skip; all_goals (split <;> first | omega | skip); all_goals (split <;> omega)), rfl⟩
                · have h7p := of_decide_eq_true h7
                  conv => whnf
                  exact end_of [] (by rfl) (by rfl) (by rfl) ⟨congrArg (AV.int .i64) (show (1 : Int) = kdI op by unfold kdI; split <;> first | omega | skip; all_goals (split <;> first | omega | skip); all_goals (split <;> omega)), rfl⟩
            · have h5p := of_decide_eq_true h5
              conv => whnf
              cases h6 : decide (op ≤ 64523)
              · have h6p := of_decide_eq_false h6
                conv => whnf
                cases h7 : decide (65 ≤ op)
                · have h7p := of_decide_eq_false h7
                  conv => whnf
                  cases h8 : decide (64512 ≤ op)
                  · have h8p := of_decide_eq_false h8
                    conv => whnf
                    exact end_of [] (by rfl) (by rfl) (by rfl) ⟨congrArg (AV.int .i64) (show (0 : Int) = kdI op by unfold kdI; split <;> first | omega | skip; all_goals (split <;> first | omega | skip); all_goals (split <;> omega)), rfl⟩
                  · have h8p := of_decide_eq_true h8
                    conv => whnf
                    cases h9 : decide (op ≤ 64519)
                    · have h9p := of_decide_eq_false h9
                      conv => whnf
                      exact end_of [] (by rfl) (by rfl) (by rfl) ⟨congrArg (AV.int .i64) (show (0 : Int) = kdI op by unfold kdI; split <;> first | omega | skip; all_goals (split <;> first | omega | skip); all_goals (split <;> omega)), rfl⟩
                    · have h9p := of_decide_eq_true h9
                      conv => whnf
                      exact end_of [] (by rfl) (by rfl) (by rfl) ⟨congrArg (AV.int .i64) (show (1 : Int) = kdI op by unfold kdI; split <;> first | omega | skip; all_goals (split <;> first | omega | skip); all_goals (split <;> omega)), rfl⟩
                · have h7p := of_decide_eq_true h7
                  conv => whnf
                  cases h8 : decide (op ≤ 196)
                  · have h8p := of_decide_eq_false h8
                    conv => whnf
                    cases h9 : decide (64512 ≤ op)
                    · have h9p := of_decide_eq_false h9
                      conv => whnf
                      exact end_of [] (by rfl) (by rfl) (by rfl) ⟨congrArg (AV.int .i64) (show (0 : Int) = kdI op by unfold kdI; split <;> first | omega | skip; all_goals (split <;> first | omega | skip); all_goals (split <;> omega)), rfl⟩
                    · have h9p := of_decide_eq_true h9
                      conv => whnf
                      cases h10 : decide (op ≤ 64519)
                      · have h10p := of_decide_eq_false h10
                        conv => whnf
                        exact end_of [] (by rfl) (by rfl) (by rfl) ⟨congrArg (AV.int .i64) (show (0 : Int) = kdI op by unfold kdI; split <;> first | omega | skip; all_goals (split <;> first | omega | skip); all_goals (split <;> omega)), rfl⟩
                      · have h10p := of_decide_eq_true h10
                        conv => whnf
                        exact end_of [] (by rfl) (by rfl) (by rfl) ⟨congrArg (AV.int .i64) (show (1 : Int) = kdI op by unfold kdI; split <;> first | omega | skip; all_goals (split <;> first | omega | skip); all_goals (split <;> omega)), rfl⟩
                  · have h8p := of_decide_eq_true h8
                    conv => whnf
                    exact end_of [] (by rfl) (by rfl) (by rfl) ⟨congrArg (AV.int .i64) (show (1 : Int) = kdI op by unfold kdI; split <;> first | omega | skip; all_goals (split <;> first | omega | skip); all_goals (split <;> omega)), rfl⟩
              · have h6p := of_decide_eq_true h6
                conv => whnf
                exact end_of [] (by rfl) (by rfl) (by rfl) ⟨congrArg (AV.int .i64) (show (2 : Int) = kdI op by unfold kdI; split <;> first | omega | skip; all_goals (split <;> first | omega | skip); all_goals (split <;> omega)), rfl⟩
          · have h4p : op = 64 := by simpa using h4
            conv => whnf
            exact end_of [] (by rfl) (by rfl) (by rfl) ⟨congrArg (AV.int .i64) (show (2 : Int) = kdI op by unfold kdI; split <;> first | omega | skip; all_goals (split <;> first | omega | skip); all_goals (split <;> omega)), rfl⟩
        · have h3p : op = 63 := by simpa using h3
          conv => whnf
          exact end_of [] (by rfl) (by rfl) (by rfl) ⟨congrArg (AV.int .i64) (show (2 : Int) = kdI op by unfold kdI; split <;> first | omega | skip; all_goals (split <;> first | omega | skip); all_goals (split <;> omega)), rfl⟩
      · have h2p : op = 38 := by simpa using h2
        conv => whnf
        exact end_of [] (by rfl) (by rfl) (by rfl) ⟨congrArg (AV.int .i64) (show (3 : Int) = kdI op by unfold kdI; split <;> first | omega | skip; all_goals (split <;> first | omega | skip); all_goals (split <;> omega)), rfl⟩
    · have h1p : op = 37 := by simpa using h1
      conv => whnf
      exact end_of [] (by rfl) (by rfl) (by rfl) ⟨congrArg (AV.int .i64) (show (3 : Int) = kdI op by unfold kdI; split <;> first | omega | skip; all_goals (split <;> first | omega | skip); all_goals (split <;> omega)), rfl⟩
  · have h0p := of_decide_eq_true h0
    conv => whnf
    cases h1 : decide (op ≤ 64529)
    · have h1p := of_decide_eq_false h1
      conv => whnf
      cases h2 : (op == 37)
      · have h2p : ¬ op = 37 := by simpa using h2
        conv => whnf
        cases h3 : (op == 38)
        · have h3p : ¬ op = 38 := by simpa using h3
          conv => whnf
          cases h4 : (op == 63)
          · have h4p : ¬ op = 63 := by simpa using h4
            conv => whnf
            cases h5 : (op == 64)
            · have h5p : ¬ op = 64 := by simpa using h5
              conv => whnf
              cases h6 : decide (64520 ≤ op)
              · have h6p := of_decide_eq_false h6
                conv => whnf
                cases h7 : decide (65 ≤ op)
                · have h7p := of_decide_eq_false h7
                  conv => whnf
                  cases h8 : decide (64512 ≤ op)
                  · have h8p := of_decide_eq_false h8
                    conv => whnf
                    exact end_of [] (by rfl) (by rfl) (by rfl) ⟨congrArg (AV.int .i64) (show (0 : Int) = kdI op by unfold kdI; split <;> first | omega | skip; all_goals (split <;> first | omega | skip); all_goals (split <;> omega)), rfl⟩
                  · have h8p := of_decide_eq_true h8
                    conv => whnf
                    cases h9 : decide (op ≤ 64519)
                    · have h9p := of_decide_eq_false h9
                      conv => whnf
                      exact end_of [] (by rfl) (by rfl) (by rfl) ⟨congrArg (AV.int .i64) (show (0 : Int) = kdI op by unfold kdI; split <;> first | omega | skip; all_goals (split <;> first | omega | skip); all_goals (split <;> omega)), rfl⟩
                    · have h9p := of_decide_eq_true h9
                      conv => whnf
                      exact end_of [] (by rfl) (by rfl) (by rfl) ⟨congrArg (AV.int .i64) (show (1 : Int) = kdI op by unfold kdI; split <;> first | omega | skip; all_goals (split <;> first | omega | skip); all_goals (split <;> omega)), rfl⟩
                · have h7p := of_decide_eq_true h7
                  conv => whnf
                  cases h8 : decide (op ≤ 196)
                  · have h8p := of_decide_eq_false h8
                    conv => whnf
                    cases h9 : decide (64512 ≤ op)
                    · have h9p := of_decide_eq_false h9
                      conv => whnf
                      exact end_of [] (by rfl) (by rfl) (by rfl) ⟨congrArg (AV.int .i64) (show (0 : Int) = kdI op by unfold kdI; split <;> first | omega | skip; all_goals (split <;> first | omega | skip); all_goals (split <;> omega)), rfl⟩
                    · have h9p := of_decide_eq_true h9
                      conv => whnf
                      cases h10 : decide (op ≤ 64519)
                      · have h10p := of_decide_eq_false h10
                        conv => whnf
                        exact end_of [] (by rfl) (by rfl) (by rfl) ⟨congrArg (AV.int .i64) (show (0 : Int) = kdI op by unfold kdI; split <;> first | omega | skip; all_goals (split <;> first | omega | skip); all_goals (split <;> omega)), rfl⟩
                      · have h10p := of_decide_eq_true h10
                        conv => whnf
                        exact end_of [] (by rfl) (by rfl) (by rfl) ⟨congrArg (AV.int .i64) (show (1 : Int) = kdI op by unfold kdI; split <;> first | omega | skip; all_goals (split <;> first | omega | skip); all_goals (split <;> omega)), rfl⟩
                  · have h8p := of_decide_eq_true h8
                    conv => whnf
                    exact end_of [] (by rfl) (by rfl) (by rfl) ⟨congrArg (AV.int .i64) (show (1 : Int) = kdI op by unfold kdI; split <;> first | omega | skip; all_goals (split <;> first | omega | skip); all_goals (split <;> omega)), rfl⟩
              · have h6p := of_decide_eq_true h6
                conv => whnf
                cases h7 : decide (op ≤ 64523)
                · have h7p := of_decide_eq_false h7
                  conv => whnf
                  cases h8 : decide (65 ≤ op)
                  · have h8p := of_decide_eq_false h8
                    conv => whnf
                    cases h9 : decide (64512 ≤ op)
                    · have h9p := of_decide_eq_false h9
                      conv => whnf
                      exact end_of [] (by rfl) (by rfl) (by rfl) ⟨congrArg (AV.int .i64) (show (0 : Int) = kdI op by unfold kdI; split <;> first | omega | skip; all_goals (split <;> first | omega | skip); all_goals (split <;> omega)), rfl⟩
                    · have h9p := of_decide_eq_true h9
                      conv => whnf
                      cases h10 : decide (op ≤ 64519)
                      · have h10p := of_decide_eq_false h10
                        conv => whnf
                        exact end_of [] (by rfl) (by rfl) (by rfl) ⟨congrArg (AV.int .i64) (show (0 : Int) = kdI op by unfold kdI; split <;> first | omega | skip; all_goals (split <;> first | omega | skip); all_goals (split <;> omega)), rfl⟩
                      · have h10p := of_decide_eq_true h10
                        conv => whnf
                        exact end_of [] (by rfl) (by rfl) (by rfl) ⟨congrArg (AV.int .i64) (show (1 : Int) = kdI op by unfold kdI; split <;> first | omega | skip; all_goals (split <;> first | omega | skip); all_goals (split <;> omega)), rfl⟩
                  · have h8p := of_decide_eq_true h8
                    conv => whnf
                    cases h9 : decide (op ≤ 196)
                    · have h9p := of_decide_eq_false h9
                      conv => whnf
                      cases h10 : decide (64512 ≤ op)
                      · have h10p := of_decide_eq_false h10
                        conv => whnf
                        exact end_of [] (by rfl) (by rfl) (by rfl) ⟨congrArg (AV.int .i64) (show (0 : Int) = kdI op by unfold kdI; split <;> first | omega | skip; all_goals (split <;> first | omega | skip); all_goals (split <;> omega)), rfl⟩
                      · have h10p := of_decide_eq_true h10
                        conv => whnf
                        cases h11 : decide (op ≤ 64519)
                        · have h11p := of_decide_eq_false h11
                          conv => whnf
                          exact end_of [] (by rfl) (by rfl) (by rfl) ⟨congrArg (AV.int .i64) (show (0 : Int) = kdI op by unfold kdI; split <;> first | omega | skip; all_goals (split <;> first | omega | skip); all_goals (split <;> omega)), rfl⟩
                        · have h11p := of_decide_eq_true h11
                          conv => whnf
                          exact end_of [] (by rfl) (by rfl) (by rfl) ⟨congrArg (AV.int .i64) (show (1 : Int) = kdI op by unfold kdI; split <;> first | omega | skip; all_goals (split <;> first | omega | skip); all_goals (split <;> omega)), rfl⟩
                    · have h9p := of_decide_eq_true h9
                      conv => whnf
                      exact end_of [] (by rfl) (by rfl) (by rfl) ⟨congrArg (AV.int .i64) (show (1 : Int) = kdI op by unfold kdI; split <;> first | omega | skip; all_goals (split <;> first | omega | skip); all_goals (split <;> omega)), rfl⟩
                · have h7p := of_decide_eq_true h7
                  conv => whnf
                  exact end_of [] (by rfl) (by rfl) (by rfl) ⟨congrArg (AV.int .i64) (show (2 : Int) = kdI op by unfold kdI; split <;> first | omega | skip; all_goals (split <;> first | omega | skip); all_goals (split <;> omega)), rfl⟩
            · have h5p : op = 64 := by simpa using h5
              conv => whnf
              exact end_of [] (by rfl) (by rfl) (by rfl) ⟨congrArg (AV.int .i64) (show (2 : Int) = kdI op by unfold kdI; split <;> first | omega | skip; all_goals (split <;> first | omega | skip); all_goals (split <;> omega)), rfl⟩
          · have h4p : op = 63 := by simpa using h4
            conv => whnf
            exact end_of [] (by rfl) (by rfl) (by rfl) ⟨congrArg (AV.int .i64) (show (2 : Int) = kdI op by unfold kdI; split <;> first | omega | skip; all_goals (split <;> first | omega | skip); all_goals (split <;> omega)), rfl⟩
        · have h3p : op = 38 := by simpa using h3
          conv => whnf
          exact end_of [] (by rfl) (by rfl) (by rfl) ⟨congrArg (AV.int .i64) (show (3 : Int) = kdI op by unfold kdI; split <;> first | omega | skip; all_goals (split <;> first | omega | skip); all_goals (split <;> omega)), rfl⟩
      · have h2p : op = 37 := by simpa using h2
        conv => whnf
        exact end_of [] (by rfl) (by rfl) (by rfl) ⟨congrArg (AV.int .i64) (show (3 : Int) = kdI op by unfold kdI; split <;> first | omega | skip; all_goals (split <;> first | omega | skip); all_goals (split <;> omega)), rfl⟩
    · have h1p := of_decide_eq_true h1
      conv => whnf
      exact end_of [] (by rfl) (by rfl) (by rfl) ⟨congrArg (AV.int .i64) (show (3 : Int) = kdI op by unfold kdI; split <;> first | omega | skip; all_goals (split <;> first | omega | skip); all_goals (split <;> omega)), rfl⟩

def stepE (op : Int) : Option Nat :=
  if kdI op = 1 then some 131 else if kdI op = 2 then some 132 else if kdI op = 3 then some 133 else if 40 ≤ op ∧ op ≤ 62 then some 134
  else if op = 26 then some 165 else if op = 27 then some 166 else if op = 28 then some 167 else if op = 32 then some 168 else if op = 33 then some 168 else if op = 34 then some 168 else if op = 35 then some 169 else if op = 36 then some 169 else none
def fnO : Option Nat → V
  | none => .nilfn
  | some f => .fn f
def mpS : List (V × V) := [(.int .i64 26, .fn 165), (.int .i64 27, .fn 166), (.int .i64 28, .fn 167), (.int .i64 32, .fn 168), (.int .i64 33, .fn 168), (.int .i64 34, .fn 168), (.int .i64 35, .fn 169), (.int .i64 36, .fn 169)]

set_option maxRecDepth 100000 in
theorem c_steps : SpecD S 135 [] [] (.mp 0) [.map mpS] := by
  refine specE ok sh135 rfl ?_
  conv => whnf
  refine put_none (by rfl) ?_
  conv => whnf
  refine put_none (by rfl) ?_
  conv => whnf
  refine put_none (by rfl) ?_
  conv => whnf
  refine put_none (by rfl) ?_
  conv => whnf
  refine put_none (by rfl) ?_
  conv => whnf
  refine put_none (by rfl) ?_
  conv => whnf
  refine put_none (by rfl) ?_
  conv => whnf
  refine put_none (by rfl) ?_
  conv => whnf
  exact end_of [0] (by rfl) (by rfl) (by rfl) (by exact ⟨rfl, rfl⟩)

theorem kd_cases (op : Int) : kdI op = 0 ∨ kdI op = 1 ∨ kdI op = 2 ∨ kdI op = 3 := by
  unfold kdI
  split
  · omega
  split
  · omega
  split <;> omega

theorem find_S (op : Int) (h : ¬ (40 ≤ op ∧ op ≤ 62)) (h0 : kdI op = 0) : (∃ j v, mfind (.int .i64 op) mpS 0 = some (some (j, v)) ∧ v = fnO (stepE op)) ∨ (mfind (.int .i64 op) mpS 0 = some none ∧ stepE op = none) := by
  unfold stepE
  rw [h0]
  rw [if_neg (by decide), if_neg (by decide), if_neg (by decide), if_neg h]
  unfold mpS
  by_cases e0 : op = 26
  · left
    subst e0
    exact ⟨_, _, rfl, rfl⟩
  by_cases e1 : op = 27
  · left
    subst e1
    exact ⟨_, _, rfl, rfl⟩
  by_cases e2 : op = 28
  · left
    subst e2
    exact ⟨_, _, rfl, rfl⟩
  by_cases e3 : op = 32
  · left
    subst e3
    exact ⟨_, _, rfl, rfl⟩
  by_cases e4 : op = 33
  · left
    subst e4
    exact ⟨_, _, rfl, rfl⟩
  by_cases e5 : op = 34
  · left
    subst e5
    exact ⟨_, _, rfl, rfl⟩
  by_cases e6 : op = 35
  · left
    subst e6
    exact ⟨_, _, rfl, rfl⟩
  by_cases e7 : op = 36
  · left
    subst e7
    exact ⟨_, _, rfl, rfl⟩
  right
  have hz : ∀ n : Int, ¬ op = n → (op == n) = false := fun n h => by simpa using h
  refine ⟨?_, ?_⟩
  · simp only [mfind, eq1, if_true, hz _ e0, hz _ e1, hz _ e2, hz _ e3, hz _ e4, hz _ e5, hz _ e6, hz _ e7]
  · rw [if_neg e0, if_neg e1, if_neg e2, if_neg e3, if_neg e4, if_neg e5, if_neg e6, if_neg e7]

set_option maxRecDepth 100000 in
set_option maxHeartbeats 4000000 in
theorem c_step (op : Int) : SpecD S 80 [.int .i64 op] [] (fnO (stepE op)) [] := by
  have hk := c_kind op
  refine specE ok sh80 rfl ?_
  conv => whnf
  rcases kd_cases op with h | h | h | h
  · rw [h] at hk
    refine call_of [] (hk) (by rfl) (by rfl) ?_
    conv => whnf
    by_cases hm : 40 ≤ op ∧ op ≤ 62
    · simp only [show decide (40 ≤ op) = true from decide_eq_true hm.1]
      conv => whnf
      simp only [show decide (op ≤ 62) = true from decide_eq_true hm.2]
      conv => whnf
      exact end_of [] (by rfl) (by rfl) (by rfl) ⟨by unfold stepE; rw [h, if_neg (by decide), if_neg (by decide), if_neg (by decide), if_pos hm]; rfl, rfl⟩
    have hf := find_S op hm h
    have hs := c_steps
    generalize stepE op = s at hf ⊢
    cases h4 : decide (40 ≤ op)
    rotate_left
    · have h4p := of_decide_eq_true h4
      conv => whnf
      simp only [show decide (op ≤ 62) = false from decide_eq_false (by omega)]
      conv => whnf
      refine call_of [] (hs) (by rfl) (by rfl) ?_
      conv => whnf
      rcases hf with ⟨j, v, h1, rfl⟩ | ⟨h1, h2⟩
      · refine look_some h1 ?_
        cases s
        · conv => whnf
          exact end_of [] (by rfl) (by rfl) (by rfl) (by exact ⟨rfl, rfl⟩)
        · conv => whnf
          exact end_of [] (by rfl) (by rfl) (by rfl) (by exact ⟨rfl, rfl⟩)
      · refine look_none h1 ?_
        subst h2
        conv => whnf
        exact end_of [] (by rfl) (by rfl) (by rfl) (by exact ⟨rfl, rfl⟩)
    · conv => whnf
      refine call_of [] (hs) (by rfl) (by rfl) ?_
      conv => whnf
      rcases hf with ⟨j, v, h1, rfl⟩ | ⟨h1, h2⟩
      · refine look_some h1 ?_
        cases s
        · conv => whnf
          exact end_of [] (by rfl) (by rfl) (by rfl) (by exact ⟨rfl, rfl⟩)
        · conv => whnf
          exact end_of [] (by rfl) (by rfl) (by rfl) (by exact ⟨rfl, rfl⟩)
      · refine look_none h1 ?_
        subst h2
        conv => whnf
        exact end_of [] (by rfl) (by rfl) (by rfl) (by exact ⟨rfl, rfl⟩)
  all_goals
    rw [h] at hk
    refine call_of [] (hk) (by rfl) (by rfl) ?_
    conv => whnf
    exact end_of [] (by rfl) (by rfl) (by rfl) ⟨by unfold stepE; rw [h]; rfl, rfl⟩
end Sh
end Go.Proofs.YtomdfaelgcefdaaGreatDoor
