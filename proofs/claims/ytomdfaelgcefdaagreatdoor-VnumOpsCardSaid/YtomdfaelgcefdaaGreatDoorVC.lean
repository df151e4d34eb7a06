/- All opcodes, by rising rows; the names are not told. -/
import Derived.Test.YtomdfaelgcefdaaGreatDoorVB
namespace Go.Proofs.YtomdfaelgcefdaaGreatDoor
open Go
namespace Sh
def opsR (p : Int × Int) : List Int := (List.range p.2.toNat).map fun (i : Nat) => p.1 + (i : Int)
def opsOf (l : List (Int × Int)) : List Int := l.flatMap opsR
def fmA : List (Int × Int) := fmN ++ fmO
theorem fm_small : ∀ p ∈ fmA, 0 ≤ p.1 ∧ p.1 ≤ 70000 ∧ 0 ≤ p.2 ∧ p.2 ≤ 30 := by decide
theorem opsOf_succ {l : List (Int × Int)} {i : Nat} {p : Int × Int} (h : l[i]? = some p) : opsOf (l.take (i + 1)) = opsOf (l.take i) ++ opsR p := by
  rw [List.take_add_one, h]
  simp [opsOf]
theorem opsR_len (p : Int × Int) : (opsR p).length = p.2.toNat := by simp [opsR]
theorem getD_at {α : Type} {l : List α} {j : Nat} (h : j < l.length) (z : α) : l[j]? = some (l.getD j z) := by simp [h]
def opK (K : List El_known) : List Int := K.map (·.op)
def alV (K : Nat) (L : Nat) (i : Int) : List V := [.own .known 1 0 K .whole, .own .row 0 0 L .whole, .int .i64 L, .int .i64 i]
def alW (K : Nat) (L : Nat) (i m j : Int) : List V := [.own .known 1 0 K .whole, .ptr 2 0, .own .row 0 0 L .whole, .int .i64 L, .int .i64 i, .int .i64 m, .int .i64 j]

set_option maxRecDepth 100000 in
set_option maxHeartbeats 4000000 in
theorem c_all : Spec S 129 [] [] fun v H => ∃ K : List El_known, opK K = opsOf fmA ∧ v = .own .known 0 0 K.length .whole ∧ H = [.row .known K] := by
  refine specE ok sh129 rfl ?_
  conv => whnf
  refine callE_of [] c_numbers (by rfl) (by rfl) ?_
  rintro l1 ⟨h1, s1⟩
  conv => whnf
  refine callE_of [] c_others (by rfl) (by rfl) ?_
  rintro l2 ⟨h2, s2⟩
  conv => whnf
  refine ⟨rfl, by simp, ?_⟩
  conv => whnf
  have hL : fmOf (l1 ++ l2) = fmA := by rw [fmA, ← h1, ← h2]; simp [fmOf]
  have hsm : smallR (l1 ++ l2) = true := by simp only [smallR, List.all_append, Bool.and_eq_true]; exact ⟨s1, s2⟩
  have e1 : List.take l1.length l1 ++ List.take l2.length (List.drop 0 l2) = l1 ++ l2 := by simp
  have e2 : l1.length + (List.take l2.length (List.drop 0 l2)).length = (l1 ++ l2).length := by simp
  have hlen : (l1 ++ l2).length = 63 := by
    have : (fmOf (l1 ++ l2)).length = 63 := by rw [hL]; rfl
    simpa [fmOf] using this
  have hl0 : l1.length + l2.length = 63 := by rw [← hlen]; simp
  generalize l1 ++ l2 = L at hL hsm e1 e2 hlen
  refine ⟨rfl, by show 0 + l1.length ≤ l1.length; omega, ⟨by show l1.length + (List.take l2.length (List.drop 0 l2)).length ≤ maxLen; unfold maxLen; omega, by show (l1.length + (List.take l2.length (List.drop 0 l2)).length) * 56 ≤ _; omega⟩, ?_⟩
  conv => whnf
  refine ⟨?_, ?_⟩
  · have hl2 : (fmOf l2).length = 26 := by rw [h2]; rfl
    show List.take l2.length (List.drop 0 l2) ≠ []
    intro h0
    have h9 : l2 = [] := by simpa using h0
    rw [h9] at hl2
    simp [fmOf] at hl2
  conv => whnf
  refine loop_of [.slot 1 .known] [2, 3] (fun vs H => ∃ (i : Nat) (K : List El_known), i ≤ L.length ∧ opK K = opsOf (fmA.take i) ∧ K.length ≤ 30 * i ∧ vs = alV K.length L.length i ∧ H = [.row .row L, .row .known K])
    (fun vs _ => match vs with | [_, _, _, .int _ j] => L.length - j.toNat | _ => 0) (by rfl) (by rfl) (by rfl) (by rfl) ⟨0, [], Nat.zero_le _, rfl, Nat.zero_le _, by rw [← e2]; rfl, by rw [← e1]; rfl⟩ ?_
  rintro vs H1 ⟨i, K, hi, hK, hKl, rfl, rfl⟩
  conv => whnf
  cases hd : decide ((i : Int) < L.length)
  · conv => whnf
    have := of_decide_eq_false hd
    obtain rfl : i = L.length := by omega
    have hall : fmA.take L.length = fmA := by rw [hlen]; rfl
    rw [hall] at hK
    exact end_of [1] (by rfl) (by rfl) (by rfl) ⟨K, hK, rfl, rfl⟩
  conv => whnf
  have := of_decide_eq_true hd
  have hw : IntKind.i64.wrap ((i : Int) + 1) = ((i + 1 : Nat) : Int) := wrap_i64 (by omega) (by omega)
  have hy := getD_at (show i < L.length by omega) (S.zero .row)
  refine ⟨rfl, by omega, by omega, ?_⟩
  conv => whnf
  refine ⟨rfl, by omega, (by decide : 0 + 5 ≤ 5), ?_⟩
  rw [show L.getD (0 + Int.toNat (i : Int)) (S.zero .row) = L.getD i (S.zero .row) by rw [Nat.zero_add, Int.toNat_natCast]]
  generalize L.getD i (S.zero .row) = r at hy
  obtain ⟨fi, ma, hdd, nms, fo⟩ := r
  have hfm : fmA[i]? = some (fi, ma) := by rw [← hL]; simp [fmOf, hy]
  obtain ⟨b1, b2, b3, b4⟩ := fm_small _ (List.mem_of_getElem? hfm)
  have hrs := List.all_eq_true.1 hsm _ (List.mem_of_getElem? hy)
  obtain ⟨c1, c2⟩ := of_decide_eq_true hrs
  simp only at b1 b2 b3 b4 c1 c2
  have hnext := opsOf_succ hfm
  conv => whnf
  refine loop_of [] [0, 1, 2] (fun vs H => ∃ (j : Nat) (K : List El_known), (j : Int) ≤ ma ∧ opK K = opsOf (fmA.take i) ++ (List.range j).map (fun (a : Nat) => fi + (a : Int)) ∧ K.length ≤ 30 * i + j ∧ vs = alW K.length L.length i ma j ∧ H = [.row .row L, .row .known K, .cells [.int .i64 fi, .int .i64 ma, .str hdd, .str nms, .int .i64 fo]])
    (fun vs _ => match vs with | [_, _, _, _, _, _, .int _ j] => ma.toNat - j.toNat | _ => 0) (by rfl) (by rfl) (by rfl) (by rfl) ⟨0, K, b3, by simp [hK], by omega, rfl, rfl⟩ ?_
  clear hK hKl
  rintro vs H1 ⟨j, K2, hj, hK, hKl, rfl, rfl⟩
  conv => whnf
  cases hd2 : decide ((j : Int) < ma)
  · conv => whnf
    have := of_decide_eq_false hd2
    refine ⟨[0, 1], [], relo_of [0, 1] (by rfl) (by rfl), ?_⟩
    refine ⟨⟨i + 1, K2, by omega, ?_, by omega, congrArg (alV K2.length L.length) hw, rfl⟩, ?_⟩
    · rw [hnext, hK, opsR]
      rw [show ma.toNat = j by omega]
    · show L.length - (IntKind.i64.wrap ((i : Int) + 1)).toNat < L.length - (i : Int).toNat
      rw [hw]; omega
  conv => whnf
  have := of_decide_eq_true hd2
  have hwj : IntKind.i64.wrap ((j : Int) + 1) = ((j + 1 : Nat) : Int) := wrap_i64 (by omega) (by omega)
  have hwf : IntKind.i64.wrap (fi + (j : Int)) = fi + (j : Int) := wrap_i64 (by omega) (by omega)
  refine callE_of [] (c_nth nms c2 j) (by rfl) (by rfl) ?_
  intro x hx
  conv => whnf
  refine And.intro (by repeat first | exact trivial | refine And.intro (by first | rfl | exact trivial) ?_) ?_
  conv => whnf
  have hmx : IntKind.i64.max = 9223372036854775807 := by decide
  refine ⟨by rw [hmx]; omega, ?_⟩
  conv => whnf
  rw [hwf]
  refine And.intro (by repeat first | exact trivial | refine And.intro (by first | rfl | exact trivial) ?_) ?_
  conv => whnf
  refine ⟨rfl, by simp, ?_⟩
  conv => whnf
  refine ⟨rfl, by show 0 + K2.length ≤ K2.length; omega, ⟨by show K2.length + 1 ≤ maxLen; unfold maxLen; omega, by show (K2.length + 1) * 32 ≤ _; omega⟩, rfl, ?_⟩
  conv => whnf
  refine ⟨[0, 4, 2], [], relo_of [0, 4, 2] (by rfl) (by rfl), ?_⟩
  refine ⟨⟨j + 1, K2 ++ [⟨fi + (j : Int), hdd ++ x, fo⟩], by omega, ?_, by simp; omega, ?_, ?_⟩, ?_⟩
  · rw [opK, List.map_append, ← opK, hK, List.range_succ]; simp
  · rw [List.length_append, ← hwj]; rfl
  · conv => rhs; rw [← List.take_length (l := K2)]
    rfl
  · show ma.toNat - (IntKind.i64.wrap ((j : Int) + 1)).toNat < ma.toNat - (j : Int).toNat
    rw [hwj]; omega
end Sh
end Go.Proofs.YtomdfaelgcefdaaGreatDoor
