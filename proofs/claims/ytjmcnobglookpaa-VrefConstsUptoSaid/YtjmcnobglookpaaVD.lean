/- The lists of opcodes. -/
import Derived.Test.YtjmcnobglookpaaVC
namespace Go.Proofs.Ytjmcnobglookpaa
open Go
namespace Sh
def tk (op : Int) : Bool := decide ((208 ≤ op ∧ op ≤ 212) ∨ (64256 ≤ op ∧ op ≤ 64286))
theorem tk_of {op : Int} {b : Bool} (h : b = true ↔ ((208 ≤ op ∧ op ≤ 212) ∨ (64256 ≤ op ∧ op ≤ 64286))) : AV.bool b = (AV.bool (tk op) : V) := by
  congr 1
  cases b <;> simp [tk] at h ⊢ <;> omega

set_option maxRecDepth 100000 in
theorem c_takes (op : Int) : SpecD S 11 [.int .i64 op] [] (.bool (tk op)) [] := by
  refine specE ok sh11 rfl ?_
  conv => whnf
  cases h1 : decide (208 ≤ op)
  · have h1' := of_decide_eq_false h1
    conv => whnf
    cases h3 : decide (64256 ≤ op)
    · have h3' := of_decide_eq_false h3
      conv => whnf
      exact end_of [] (by rfl) (by rfl) (by rfl) ⟨tk_of (by simp; omega), rfl⟩
    · have h3' := of_decide_eq_true h3
      omega
  · have h1' := of_decide_eq_true h1
    conv => whnf
    cases h2 : decide (op ≤ 212)
    · have h2' := of_decide_eq_false h2
      conv => whnf
      cases h3 : decide (64256 ≤ op)
      · have h3' := of_decide_eq_false h3
        conv => whnf
        exact end_of [] (by rfl) (by rfl) (by rfl) ⟨tk_of (by simp; omega), rfl⟩
      · have h3' := of_decide_eq_true h3
        conv => whnf
        refine end_of [] (by rfl) (by rfl) (by rfl) ⟨tk_of ?_, rfl⟩
        simp only [decide_eq_true_eq]
        omega
    · have h2' := of_decide_eq_true h2
      conv => whnf
      exact end_of [] (by rfl) (by rfl) (by rfl) ⟨tk_of (by simp; omega), rfl⟩

set_option maxRecDepth 100000 in
theorem c_Takes (op : Int) : SpecD S 7 [.int .i64 op] [] (.bool (tk op)) [] := by
  refine specE ok sh7 rfl ?_
  conv => whnf
  cases h1 : decide (208 ≤ op)
  · have h1' := of_decide_eq_false h1
    conv => whnf
    cases h3 : decide (64256 ≤ op)
    · have h3' := of_decide_eq_false h3
      conv => whnf
      exact end_of [] (by rfl) (by rfl) (by rfl) ⟨tk_of (by simp; omega), rfl⟩
    · have h3' := of_decide_eq_true h3
      omega
  · have h1' := of_decide_eq_true h1
    conv => whnf
    cases h2 : decide (op ≤ 212)
    · have h2' := of_decide_eq_false h2
      conv => whnf
      cases h3 : decide (64256 ≤ op)
      · have h3' := of_decide_eq_false h3
        conv => whnf
        exact end_of [] (by rfl) (by rfl) (by rfl) ⟨tk_of (by simp; omega), rfl⟩
      · have h3' := of_decide_eq_true h3
        conv => whnf
        refine end_of [] (by rfl) (by rfl) (by rfl) ⟨tk_of ?_, rfl⟩
        simp only [decide_eq_true_eq]
        omega
    · have h2' := of_decide_eq_true h2
      conv => whnf
      exact end_of [] (by rfl) (by rfl) (by rfl) ⟨tk_of (by simp; omega), rfl⟩

theorem take_succ' {α : Type} {q : List α} {j : Nat} {y : α} (h : q[j]? = some y) : q.take (j + 1) = q.take j ++ [y] := by rw [List.take_add_one, h]; rfl
def OPS : List Int := opsOf fmA
theorem OPS_len : OPS.length ≤ 1000 := by decide +kernel
def opV (k : KT) (n x j : Int) : List V := [.own .int 1 0 x.toNat .whole, .own k 0 0 n.toNat .whole, .int .i64 n, .int .i64 j]

set_option maxRecDepth 100000 in
set_option maxHeartbeats 4000000 in
theorem c_iOps : SpecD S 10 [] [] (.own .int 0 0 OPS.length .whole) [.row .int OPS] := by
  refine specE ok sh10 rfl ?_
  conv => whnf
  refine callE_of [] c_all (by rfl) (by rfl) ?_
  intro K hK
  have hKl : K.length = OPS.length := by rw [OPS, ← hK]; simp [opK]
  have hol := OPS_len
  conv => whnf
  refine loop_of [.slot 1 .int] [0, 1] (fun vs H => ∃ (j : Nat), j ≤ K.length ∧ vs = opV .known K.length j j ∧ H = [.row .known K, .row .int ((opK K).take j)])
    (fun vs _ => match vs with | [_, _, _, .int _ j] => K.length - j.toNat | _ => 0) (by rfl) (by rfl) (by rfl) (by rfl) ⟨0, Nat.zero_le _, rfl, rfl⟩ ?_
  rintro vs H1 ⟨j, hj, rfl, rfl⟩
  conv => whnf
  cases hd : decide ((j : Int) < K.length)
  · conv => whnf
    have := of_decide_eq_false hd
    obtain rfl : j = K.length := by omega
    refine end_of [1] (by rfl) (by rfl) (by rfl) ⟨?_, ?_⟩
    · rw [← hKl]; rfl
    · rw [OPS, ← hK]
      show ([AO.row .int ((opK K).take K.length)] : Heap KT ElT) = _
      rw [show K.length = (opK K).length by simp [opK], List.take_length]
  conv => whnf
  have := of_decide_eq_true hd
  have hw : IntKind.i64.wrap ((j : Int) + 1) = ((j + 1 : Nat) : Int) := wrap_i64 (by omega) (by omega)
  have hy := getD_at (show j < K.length by omega) (S.zero .known)
  refine ⟨rfl, by omega, by show (j : Int) < ((K.length : Int).toNat : Int); omega, ?_⟩
  conv => whnf
  refine ⟨rfl, by omega, (by decide : 0 + 3 ≤ 3), ?_⟩
  rw [show K.getD (0 + Int.toNat (j : Int)) (S.zero .known) = K.getD j (S.zero .known) by rw [Nat.zero_add, Int.toNat_natCast]]
  generalize K.getD j (S.zero .known) = r at hy
  have ht : (opK K).take (j + 1) = (opK K).take j ++ [r.op] := take_succ' (by simp [opK, hy])
  have htl : ((opK K).take j).length = j := by simp [opK]; omega
  generalize (opK K).take j = xs at ht htl
  obtain ⟨ro, rn, rf⟩ := r
  conv => whnf
  refine ⟨rfl, by simp, ?_⟩
  conv => whnf
  have e : xs.take (j : Int).toNat = xs := by rw [Int.toNat_natCast, ← htl, List.take_length]
  refine ⟨rfl, by show 0 + j ≤ xs.length; omega, ⟨by show j + 1 ≤ maxLen; unfold maxLen; omega, by show (j + 1) * 8 ≤ _; omega⟩, rfl, ?_⟩
  conv => whnf
  refine ⟨[0, 4], [], relo_of [0, 4] (by rfl) (by rfl), ?_⟩
  refine ⟨⟨j + 1, by omega, congrArg (opV .known K.length (j + 1 : Nat)) hw, ?_⟩, ?_⟩
  · rw [ht]
    conv => rhs; rw [← e]
    rfl
  · show K.length - (IntKind.i64.wrap ((j : Int) + 1)).toNat < K.length - (j : Int).toNat
    rw [hw]; omega

def VOPS : List Int := OPS.filter tk
def voV (n x : Nat) (j : Int) : List V := [.own .int 1 0 x .whole, .own .int 0 0 n .whole, .int .i64 n, .int .i64 j]

set_option maxRecDepth 100000 in
set_option maxHeartbeats 4000000 in
theorem c_vOps : SpecD S 6 [] [] (.own .int 0 0 VOPS.length .whole) [.row .int VOPS] := by
  have hol := OPS_len
  refine specE ok sh6 rfl ?_
  conv => whnf
  refine call_of [] (c_iOps) (by rfl) (by rfl) ?_
  conv => whnf
  unfold VOPS
  generalize OPS = L at hol
  refine loop_of [.slot 1 .int] [0, 1] (fun vs H => ∃ (j : Nat), j ≤ L.length ∧ vs = voV L.length ((L.take j).filter tk).length j ∧ H = [.row .int L, .row .int ((L.take j).filter tk)])
    (fun vs _ => match vs with | [_, _, _, .int _ j] => L.length - j.toNat | _ => 0) (by rfl) (by rfl) (by rfl) (by rfl) ⟨0, Nat.zero_le _, rfl, rfl⟩ ?_
  rintro vs H1 ⟨j, hj, rfl, rfl⟩
  conv => whnf
  cases hd : decide ((j : Int) < L.length)
  · conv => whnf
    have := of_decide_eq_false hd
    obtain rfl : j = L.length := by omega
    refine end_of [1] (by rfl) (by rfl) (by rfl) ⟨?_, ?_⟩
    · show (AV.own .int 0 0 ((L.take L.length).filter tk).length .whole : V) = _
      rw [List.take_length]
    · show ([AO.row .int ((L.take L.length).filter tk)] : Heap KT ElT) = _
      rw [List.take_length]
  conv => whnf
  have := of_decide_eq_true hd
  have hw : IntKind.i64.wrap ((j : Int) + 1) = ((j + 1 : Nat) : Int) := wrap_i64 (by omega) (by omega)
  have hy := getD_at (show j < L.length by omega) (S.zero .int)
  refine ⟨rfl, by omega, by omega, ?_⟩
  conv => whnf
  refine ⟨rfl, by omega, (by decide : 0 + 1 ≤ 1), ?_⟩
  rw [show L.getD (0 + Int.toNat (j : Int)) (S.zero .int) = L.getD j (S.zero .int) by rw [Nat.zero_add, Int.toNat_natCast]]
  generalize L.getD j (S.zero .int) = r at hy
  have ht : (L.take (j + 1)).filter tk = (L.take j).filter tk ++ (if tk r = true then [r] else []) := by
    rw [take_succ' hy, List.filter_append]
    cases h : tk r <;> simp [h]
  have htl : ((L.take j).filter tk).length ≤ j := Nat.le_trans (List.length_filter_le _ _) (by simp; omega)
  generalize (L.take j).filter tk = xs at ht htl
  conv => whnf
  refine call_of [] (c_takes r) (by rfl) (by rfl) ?_
  conv => whnf
  cases htk : tk r
  · rw [htk, if_neg (show ¬ (false = true) by simp), List.append_nil] at ht
    conv => whnf
    refine ⟨[0, 1], [], relo_of [0, 1] (by rfl) (by rfl), ?_⟩
    refine ⟨⟨j + 1, by omega, ?_, ?_⟩, ?_⟩
    · rw [ht]; exact congrArg (voV L.length xs.length) hw
    · rw [ht]; rfl
    · show L.length - (IntKind.i64.wrap ((j : Int) + 1)).toNat < L.length - (j : Int).toNat
      rw [hw]; omega
  rw [htk, if_pos (show true = true from rfl)] at ht
  conv => whnf
  refine ⟨rfl, by simp, ?_⟩
  conv => whnf
  refine ⟨rfl, by show 0 + xs.length ≤ xs.length; omega, ⟨by show xs.length + 1 ≤ maxLen; unfold maxLen; omega, by show (xs.length + 1) * 8 ≤ _; omega⟩, rfl, ?_⟩
  conv => whnf
  refine ⟨[0, 3], [], relo_of [0, 3] (by rfl) (by rfl), ?_⟩
  refine ⟨⟨j + 1, by omega, ?_, ?_⟩, ?_⟩
  · rw [ht, List.length_append]; exact congrArg (voV L.length (xs.length + 1)) hw
  · rw [ht]
    conv => rhs; rw [← List.take_length (l := xs)]
    rfl
  · show L.length - (IntKind.i64.wrap ((j : Int) + 1)).toNat < L.length - (j : Int).toNat
    rw [hw]; omega

theorem VOPS_eq : VOPS = (List.range 5).map (fun (i : Nat) => 208 + (i : Int)) ++ (List.range 31).map (fun (i : Nat) => 64256 + (i : Int)) := by decide +kernel
theorem VOPS_has (op : Int) : (VOPS.any fun x => x == op) = tk op := by
  rw [VOPS_eq]
  rw [Bool.eq_iff_iff]
  simp only [tk, List.any_eq_true, decide_eq_true_eq, List.mem_append, List.mem_map, List.mem_range, beq_iff_eq]
  constructor
  · rintro ⟨x, ⟨a, ha, rfl⟩ | ⟨a, ha, rfl⟩, rfl⟩
    · left; omega
    · right; omega
  · rintro (⟨h1, h2⟩ | ⟨h1, h2⟩)
    · exact ⟨op, .inl ⟨(op - 208).toNat, by omega, by omega⟩, rfl⟩
    · exact ⟨op, .inr ⟨(op - 64256).toNat, by omega, by omega⟩, rfl⟩
theorem VOPS_up : ∀ i : Fin 35, VOPS.getD i.val 0 < VOPS.getD (i.val + 1) 0 := by decide +kernel
theorem VOPS_len : VOPS.length = 36 := by decide +kernel
end Sh
end Go.Proofs.Ytjmcnobglookpaa
