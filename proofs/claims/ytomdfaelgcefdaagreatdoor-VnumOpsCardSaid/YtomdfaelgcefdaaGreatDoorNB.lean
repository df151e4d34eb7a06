/- MADE BY PROGRAM (nb.py): the opcodes of this layer. -/
import Derived.Test.YtomdfaelgcefdaaGreatDoorNA
namespace Go.Proofs.YtomdfaelgcefdaaGreatDoor
open Go
namespace Sh
theorem take_succ' {α : Type} {q : List α} {j : Nat} {y : α} (h : q[j]? = some y) : q.take (j + 1) = q.take j ++ [y] := by rw [List.take_add_one, h]; rfl
def OPS : List Int := opsOf fmA
theorem OPS_len : OPS.length ≤ 1000 := by decide +kernel
def opV (k : KT) (n x j : Int) : List V := [.own .int 1 0 x.toNat .whole, .own k 0 0 n.toNat .whole, .int .i64 n, .int .i64 j]

set_option maxRecDepth 100000 in
set_option maxHeartbeats 4000000 in
theorem c_iOps : SpecD S 79 [] [] (.own .int 0 0 OPS.length .whole) [.row .int OPS] := by
  refine specE ok sh79 rfl ?_
  conv => whnf
  refine callE_of [] c_all (by rfl) (by rfl) ?_
  intro K hK
  have hKl : K.length = OPS.length := by rw [OPS, ← hK]; simp [opK]
  have hol := OPS_len
  conv => whnf
  refine loop_of [.slot 1 .int] [0, 1] (fun vs H => ∃ (j : Nat), j ≤ K.length ∧ vs = opV .known K.length j j ∧ H = [.row .known K, .row .int ((opK K).take j)])
    (fun vs _ => match vs with | [_, _, _, .int _ j] => K.length - j.toNat | _ => 0) (by rfl) (by rfl) (by rfl) (by rfl) ⟨0, Nat.zero_le _, rfl, rfl⟩ ?_
  rintro vs H1 ⟨j, hj, rfl, rfl⟩
  conv => whnf
  cases hd : decide ((j : Int) < K.length)
  · conv => whnf
    have := of_decide_eq_false hd
    obtain rfl : j = K.length := by omega
    refine end_of [1] (by rfl) (by rfl) (by rfl) ⟨?_, ?_⟩
    · rw [← hKl]; rfl
    · rw [OPS, ← hK]
      show ([AO.row .int ((opK K).take K.length)] : Heap KT ElT) = _
      rw [show K.length = (opK K).length by simp [opK], List.take_length]
  conv => whnf
  have := of_decide_eq_true hd
  have hw : IntKind.i64.wrap ((j : Int) + 1) = ((j + 1 : Nat) : Int) := wrap_i64 (by omega) (by omega)
  have hy := getD_at (show j < K.length by omega) (S.zero .known)
  refine ⟨rfl, by omega, by show (j : Int) < ((K.length : Int).toNat : Int); omega, ?_⟩
  conv => whnf
  refine ⟨rfl, by omega, (by decide : 0 + 3 ≤ 3), ?_⟩
  rw [show K.getD (0 + Int.toNat (j : Int)) (S.zero .known) = K.getD j (S.zero .known) by rw [Nat.zero_add, Int.toNat_natCast]]
  generalize K.getD j (S.zero .known) = r at hy
  have ht : (opK K).take (j + 1) = (opK K).take j ++ [r.op] := take_succ' (by simp [opK, hy])
  have htl : ((opK K).take j).length = j := by simp [opK]; omega
  generalize (opK K).take j = xs at ht htl
  obtain ⟨ro, rn, rf⟩ := r
  conv => whnf
  refine ⟨rfl, by simp, ?_⟩
  conv => whnf
  have e : xs.take (j : Int).toNat = xs := by rw [Int.toNat_natCast, ← htl, List.take_length]
  refine ⟨rfl, by show 0 + j ≤ xs.length; omega, ⟨by show j + 1 ≤ maxLen; unfold maxLen; omega, by show (j + 1) * 8 ≤ _; omega⟩, rfl, ?_⟩
  conv => whnf
  refine ⟨[0, 4], [], relo_of [0, 4] (by rfl) (by rfl), ?_⟩
  refine ⟨⟨j + 1, by omega, congrArg (opV .known K.length (j + 1 : Nat)) hw, ?_⟩, ?_⟩
  · rw [ht]
    conv => rhs; rw [← e]
    rfl
  · show K.length - (IntKind.i64.wrap ((j : Int) + 1)).toNat < K.length - (j : Int).toNat
    rw [hw]; omega


/-- Is there a step of an opcode? -/
def sB (op : Int) : Bool := decide ((26 ≤ op ∧ op ≤ 28) ∨ (32 ≤ op ∧ op ≤ 38) ∨ (40 ≤ op ∧ op ≤ 196) ∨ (64512 ≤ op ∧ op ≤ 64529))
theorem stepE_no {op : Int} (h : sB op = false) : stepE op = none := by
  simp only [sB, decide_eq_false_iff_not] at h
  have hk : kdI op = 0 := by
    unfold kdI
    rw [if_neg (by omega), if_neg (by omega), if_neg (by omega)]
  unfold stepE
  rw [hk, if_neg (by decide), if_neg (by decide), if_neg (by decide), if_neg (by omega), if_neg (by omega), if_neg (by omega), if_neg (by omega), if_neg (by omega), if_neg (by omega), if_neg (by omega), if_neg (by omega), if_neg (by omega)]
theorem stepE_yes {op : Int} (h : sB op = true) : ∃ f, stepE op = some f := by
  simp only [sB, decide_eq_true_eq] at h
  rcases kd_cases op with hk | hk | hk | hk
  · have h0 : ¬ ((64524 ≤ op ∧ op ≤ 64529) ∨ op = 37 ∨ op = 38) ∧ ¬ (op = 63 ∨ op = 64 ∨ (64520 ≤ op ∧ op ≤ 64523)) ∧ ¬ ((65 ≤ op ∧ op ≤ 196) ∨ (64512 ≤ op ∧ op ≤ 64519)) := by
      unfold kdI at hk
      split at hk
      · cases hk
      split at hk
      · cases hk
      split at hk
      · cases hk
      exact ⟨by assumption, by assumption, by assumption⟩
    obtain ⟨a, b, c⟩ := h0
    rcases h with h | h | h | h
    · rcases (by omega : op = 26 ∨ op = 27 ∨ op = 28) with rfl | rfl | rfl <;> exact ⟨_, rfl⟩
    · rcases (by omega : op = 32 ∨ op = 33 ∨ op = 34 ∨ op = 35 ∨ op = 36) with rfl | rfl | rfl | rfl | rfl <;> exact ⟨_, rfl⟩
    · unfold stepE
      rw [hk, if_neg (by decide), if_neg (by decide), if_neg (by decide), if_pos (by omega)]
      exact ⟨_, rfl⟩
    · omega
  all_goals
    unfold stepE
    rw [hk]
    exact ⟨_, rfl⟩

def NOPS : List Int := OPS.filter sB
def voV (n x : Nat) (j : Int) : List V := [.own .int 1 0 x .whole, .own .int 0 0 n .whole, .int .i64 n, .int .i64 j]

set_option maxRecDepth 100000 in
set_option maxHeartbeats 4000000 in
theorem c_nOps : SpecD S 30 [] [] (.own .int 0 0 NOPS.length .whole) [.row .int NOPS] := by
  have hol := OPS_len
  refine specE ok sh30 rfl ?_
  conv => whnf
  refine call_of [] (c_iOps) (by rfl) (by rfl) ?_
  conv => whnf
  unfold NOPS
  generalize OPS = L at hol
  refine loop_of [.slot 1 .int] [0, 1] (fun vs H => ∃ (j : Nat), j ≤ L.length ∧ vs = voV L.length ((L.take j).filter sB).length j ∧ H = [.row .int L, .row .int ((L.take j).filter sB)])
    (fun vs _ => match vs with | [_, _, _, .int _ j] => L.length - j.toNat | _ => 0) (by rfl) (by rfl) (by rfl) (by rfl) ⟨0, Nat.zero_le _, rfl, rfl⟩ ?_
  rintro vs H1 ⟨j, hj, rfl, rfl⟩
  conv => whnf
  cases hd : decide ((j : Int) < L.length)
  · conv => whnf
    have := of_decide_eq_false hd
    obtain rfl : j = L.length := by omega
    refine end_of [1] (by rfl) (by rfl) (by rfl) ⟨?_, ?_⟩
    · show (AV.own .int 0 0 ((L.take L.length).filter sB).length .whole : V) = _
      rw [List.take_length]
    · show ([AO.row .int ((L.take L.length).filter sB)] : Heap KT ElT) = _
      rw [List.take_length]
  conv => whnf
  have := of_decide_eq_true hd
  have hw : IntKind.i64.wrap ((j : Int) + 1) = ((j + 1 : Nat) : Int) := wrap_i64 (by omega) (by omega)
  have hy := getD_at (show j < L.length by omega) (S.zero .int)
  refine ⟨rfl, by omega, by omega, ?_⟩
  conv => whnf
  refine ⟨rfl, by omega, (by decide : 0 + 1 ≤ 1), ?_⟩
  rw [show L.getD (0 + Int.toNat (j : Int)) (S.zero .int) = L.getD j (S.zero .int) by rw [Nat.zero_add, Int.toNat_natCast]]
  generalize L.getD j (S.zero .int) = r at hy
  have ht : (L.take (j + 1)).filter sB = (L.take j).filter sB ++ (if sB r = true then [r] else []) := by
    rw [take_succ' hy, List.filter_append]
    cases h : sB r <;> simp [h]
  have htl : ((L.take j).filter sB).length ≤ j := Nat.le_trans (List.length_filter_le _ _) (by simp; omega)
  generalize (L.take j).filter sB = xs at ht htl
  have hst := c_step r
  conv => whnf
  cases hsb : sB r
  · rw [stepE_no hsb] at hst
    refine call_of [] (hst) (by rfl) (by rfl) ?_
    conv => whnf
    rw [hsb, if_neg (show ¬ (false = true) by simp), List.append_nil] at ht
    conv => whnf
    refine ⟨[0, 1], [], relo_of [0, 1] (by rfl) (by rfl), ?_⟩
    refine ⟨⟨j + 1, by omega, ?_, ?_⟩, ?_⟩
    · rw [ht]; exact congrArg (voV L.length xs.length) hw
    · rw [ht]; rfl
    · show L.length - (IntKind.i64.wrap ((j : Int) + 1)).toNat < L.length - (j : Int).toNat
      rw [hw]; omega
  obtain ⟨f, hf⟩ := stepE_yes hsb
  rw [hf] at hst
  refine call_of [] (hst) (by rfl) (by rfl) ?_
  conv => whnf
  rw [hsb, if_pos (show true = true from rfl)] at ht
  refine ⟨rfl, by simp, ?_⟩
  conv => whnf
  refine ⟨rfl, by show 0 + xs.length ≤ xs.length; omega, ⟨by show xs.length + 1 ≤ maxLen; unfold maxLen; omega, by show (xs.length + 1) * 8 ≤ _; omega⟩, rfl, ?_⟩
  conv => whnf
  refine ⟨[0, 3], [], relo_of [0, 3] (by rfl) (by rfl), ?_⟩
  refine ⟨⟨j + 1, by omega, ?_, ?_⟩, ?_⟩
  · rw [ht, List.length_append]; exact congrArg (voV L.length (xs.length + 1)) hw
  · rw [ht]
    conv => rhs; rw [← List.take_length (l := xs)]
    rfl
  · show L.length - (IntKind.i64.wrap ((j : Int) + 1)).toNat < L.length - (j : Int).toNat
    rw [hw]; omega


end Sh
end Go.Proofs.YtomdfaelgcefdaaGreatDoor
