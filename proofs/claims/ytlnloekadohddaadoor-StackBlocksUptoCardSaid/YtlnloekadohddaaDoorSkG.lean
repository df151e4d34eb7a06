/- What the laws of a checker use: default values, lists, lists compared. -/
import Derived.Test.YtlnloekadohddaaDoorSkF
namespace Go.Proofs.YtlnloekadohddaaDoor
open Go
namespace Sh

def dfl (v : El_vt) : Bool := if v.num = 5 then v.null else decide (1 ≤ v.num ∧ v.num ≤ 7)

set_option maxRecDepth 100000 in
theorem c_dflT (v : El_vt) : SpecD S 36 [.agg (enc_vt v)] [] (.bool (dfl v)) [] := by
  obtain ⟨a, b, c⟩ := v
  refine specE ok sh36 rfl ?_
  conv => whnf
  rcases h : (a == 5) with _ | _
  · have h5 : ¬ a = 5 := by simpa using h
    conv => whnf
    cases h1 : decide (1 ≤ a)
    · conv => whnf
      refine end_of [] (by rfl) (by rfl) (by rfl) ⟨?_, rfl⟩
      have := of_decide_eq_false h1
      show AV.bool false = AV.bool (if a = 5 then b else decide (1 ≤ a ∧ a ≤ 7))
      rw [if_neg h5, decide_eq_false (by omega)]
    · conv => whnf
      refine end_of [] (by rfl) (by rfl) (by rfl) ⟨?_, rfl⟩
      have := of_decide_eq_true h1
      show AV.bool (decide (a ≤ 7)) = AV.bool (if a = 5 then b else decide (1 ≤ a ∧ a ≤ 7))
      rw [if_neg h5]
      congr 1
      simp [this]
  · have h5 : a = 5 := by simpa using h
    subst h5
    conv => whnf
    refine end_of [] (by rfl) (by rfl) (by rfl) ⟨rfl, rfl⟩

set_option maxRecDepth 100000 in
theorem c_dflR (v : El_vt) : SpecD S 19 [.agg (enc_vt v)] [] (.bool (dfl v)) [] := by
  obtain ⟨a, b, c⟩ := v
  refine specE ok sh19 rfl ?_
  conv => whnf
  cases h1 : decide (1 ≤ a)
  · have h1' := of_decide_eq_false h1
    conv => whnf
    cases h6 : (a == 6)
    rotate_left
    · have : a = 6 := by simpa using h6
      omega
    conv => whnf
    cases h7 : (a == 7)
    rotate_left
    · have : a = 7 := by simpa using h7
      omega
    conv => whnf
    cases h5 : (a == 5)
    rotate_left
    · have : a = 5 := by simpa using h5
      omega
    have h5' : ¬ a = 5 := by simpa using h5
    conv => whnf
    refine end_of [] (by rfl) (by rfl) (by rfl) ⟨?_, rfl⟩
    show AV.bool false = AV.bool (if a = 5 then b else decide (1 ≤ a ∧ a ≤ 7))
    rw [if_neg h5', decide_eq_false (by omega)]
  · have h1' := of_decide_eq_true h1
    conv => whnf
    cases h4 : decide (a ≤ 4)
    · have h4' := of_decide_eq_false h4
      conv => whnf
      cases h6 : (a == 6)
      · have h6' : ¬ a = 6 := by simpa using h6
        conv => whnf
        cases h7 : (a == 7)
        · have h7' : ¬ a = 7 := by simpa using h7
          conv => whnf
          cases h5 : (a == 5)
          · have h5' : ¬ a = 5 := by simpa using h5
            conv => whnf
            refine end_of [] (by rfl) (by rfl) (by rfl) ⟨?_, rfl⟩
            show AV.bool false = AV.bool (if a = 5 then b else decide (1 ≤ a ∧ a ≤ 7))
            rw [if_neg h5', decide_eq_false (by omega)]
          · have h5' : a = 5 := by simpa using h5
            subst h5'
            conv => whnf
            exact end_of [] (by rfl) (by rfl) (by rfl) ⟨rfl, rfl⟩
        · have h7' : a = 7 := by simpa using h7
          subst h7'
          conv => whnf
          exact end_of [] (by rfl) (by rfl) (by rfl) ⟨rfl, rfl⟩
      · have h6' : a = 6 := by simpa using h6
        subst h6'
        conv => whnf
        exact end_of [] (by rfl) (by rfl) (by rfl) ⟨rfl, rfl⟩
    · have h4' := of_decide_eq_true h4
      conv => whnf
      refine end_of [] (by rfl) (by rfl) (by rfl) ⟨?_, rfl⟩
      show AV.bool true = AV.bool (if a = 5 then b else decide (1 ≤ a ∧ a ≤ 7))
      rw [if_neg (by omega), decide_eq_true (by omega)]

set_option maxRecDepth 100000 in
theorem c_list (l : List El_vt) (hl : l.length ≤ 1048576) : SpecD S 10 [.imm .vt l] [] (.imm .vt l) [] := by
  refine specE ok sh10 rfl ?_
  conv => whnf
  refine ⟨rfl, Nat.zero_le _, ⟨by show 0 + l.length ≤ maxLen; unfold maxLen; omega, by show (0 + l.length) * 24 ≤ _; omega⟩, rfl, ?_⟩
  conv => whnf
  refine endL_of [] [1] (by rfl) (by rfl) (by rfl) trivial ⟨rfl, ?_⟩ ⟨?_, rfl⟩
  · show 0 + (0 + l.length) ≤ (([] : List El_vt) ++ l).length
    simp
  · show (AV.imm .vt (((([] : List El_vt) ++ l).drop 0).take (0 + l.length)) : V) = AV.imm .vt l
    simp

def sameV (a b : List El_vt) (j : Int) : List V := [.imm .vt a, .imm .vt b, .int .i64 j]

set_option maxRecDepth 100000 in
theorem c_same (l : List El_vt) (hl : l.length ≤ 4000000) : SpecD S 13 [.imm .vt l, .imm .vt l] [] (.bool true) [] := by
  refine specE ok sh13 rfl ?_
  conv => whnf
  rw [show ((l.length : Int) != l.length) = false by simp]
  conv => whnf
  refine loop_of [] [] (fun vs H => ∃ j : Nat, j ≤ l.length ∧ vs = sameV l l j ∧ H = [])
    (fun vs _ => match vs with | [_, _, .int _ j] => l.length - j.toNat | _ => 0) (by rfl) (by rfl) (by rfl) (by rfl) ⟨0, Nat.zero_le _, rfl, rfl⟩ ?_
  rintro vs H1 ⟨j, hj, rfl, rfl⟩
  conv => whnf
  cases hd : decide ((j : Int) < l.length)
  · conv => whnf
    exact end_of [] (by rfl) (by rfl) (by rfl) ⟨rfl, rfl⟩
  · conv => whnf
    have hlt := of_decide_eq_true hd
    have hw : IntKind.i64.wrap ((j : Int) + 1) = ((j + 1 : Nat) : Int) := wrap_i64 (by omega) (by omega)
    refine ⟨rfl, by omega, by omega, ?_⟩
    conv => whnf
    refine ⟨by rw [Int.toNat_natCast]; omega, by decide, ?_⟩
    rw [Int.toNat_natCast]
    generalize hv : l.getD j (S.zero .vt) = v
    obtain ⟨a, b, c⟩ := v
    conv => whnf
    refine ⟨rfl, by omega, by omega, ?_⟩
    conv => whnf
    refine ⟨by rw [Int.toNat_natCast]; omega, by decide, ?_⟩
    conv => whnf
    simp only [Int.toNat_natCast, hv, beq_self_eq_true, Bool.and_self, Bool.not_true]
    conv => whnf
    refine ⟨[], [], relo_of [] (by rfl) (by rfl), ?_⟩
    refine ⟨⟨j + 1, by omega, congrArg (sameV l l) hw, rfl⟩, ?_⟩
    show l.length - (IntKind.i64.wrap ((j : Int) + 1)).toNat < l.length - (j : Int).toNat
    rw [hw]; omega
end Sh
end Go.Proofs.YtlnloekadohddaaDoor
