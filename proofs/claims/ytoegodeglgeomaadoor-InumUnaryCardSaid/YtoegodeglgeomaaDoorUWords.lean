/- The reference's words: the names, cut at blanks, from an opcode on. -/
import Derived.Test.YtoegodeglgeomaaDoorUFind
namespace Go.Proofs.YtoegodeglgeomaaDoor
open Go
namespace Sh

/-- The word of an opcode: the words from place i on, the next one's opcode n, its start fr. -/
def wordsW (s : ByteArray) (op : Int) : Nat → Int → Nat → Nat → ByteArray
  | 0, _, _, _ => ⟨#[]⟩
  | f + 1, n, fr, i => if i = s.size ∨ byteAt s i = 32 then (if n = op then s.extract fr i else wordsW s op f (n + 1) (i + 1) (i + 1)) else wordsW s op f n fr (i + 1)

def wdV (s : ByteArray) (op n fr i : Int) : List V := [.str s, .int .i64 op, .int .i64 n, .int .i64 fr, .int .i64 i]

set_option maxRecDepth 100000 in
theorem c_words (first op : Int) (s : ByteArray) (hs : s.size ≤ 1000) (h0 : 0 ≤ first) (h1 : first ≤ 1000) (W0 : ByteArray) (hW0 : wordsW s op (s.size + 1) first 0 0 = W0) :
    SpecD S 34 [.int .i64 first, .str s, .int .i64 op] [] (.str W0) [] := by
  refine specE ok sh34 rfl ?_
  conv => whnf
  refine loop_of [] [] (fun vs H => ∃ (i fr : Nat) (n : Int), i ≤ s.size + 1 ∧ fr ≤ i ∧ first ≤ n ∧ n ≤ first + i ∧ wordsW s op (s.size + 1 - i) n fr i = W0 ∧ vs = wdV s op n fr i ∧ H = [])
    (fun vs _ => match vs with | [_, _, _, _, .int _ i] => s.size + 1 - i.toNat | _ => 0) (by rfl) (by rfl) (by rfl) (by rfl) ⟨0, 0, first, by omega, by omega, by omega, by omega, hW0, rfl, rfl⟩ ?_
  rintro vs H1 ⟨i, fr, n, hi, hfr, hn0, hn1, hW, rfl, rfl⟩
  conv => whnf
  cases hd : decide ((i : Int) ≤ s.size)
  · conv => whnf
    have := of_decide_eq_false hd
    have he : (⟨#[]⟩ : ByteArray) = W0 := by rw [← hW, show s.size + 1 - i = 0 by omega]; rfl
    rw [he]
    exact end_of [] (by rfl) (by rfl) (by rfl) (by exact ⟨rfl, rfl⟩)
  · conv => whnf
    have hlt := of_decide_eq_true hd
    have hfu : s.size + 1 - i = (s.size + 1 - (i + 1)) + 1 := by omega
    have hw : IntKind.i64.wrap ((i : Int) + 1) = ((i + 1 : Nat) : Int) := wrap_i64 (by omega) (by omega)
    have hwn : IntKind.i64.wrap (n + 1) = n + 1 := wrap_i64 (by omega) (by omega)
    have hm : s.size + 1 - (IntKind.i64.wrap ((i : Int) + 1)).toNat < s.size + 1 - (i : Int).toNat := by rw [hw]; omega
    by_cases he : i = s.size
    · have hcut : i = s.size ∨ byteAt s i = 32 := .inl he
      simp only [show ((i : Int) == (s.size : Int)) = true by simp [he]]
      conv => whnf
      by_cases hn : n = op
      · simp only [show (n == op) = true by simp [hn]]
        conv => whnf
        refine ⟨by omega, by omega, by omega, ?_⟩
        simp only [Int.toNat_natCast]
        conv => whnf
        have hr : s.extract fr i = W0 := by rw [← hW, hfu, wordsW, if_pos hcut, if_pos hn]
        rw [hr]
        exact end_of [] (by rfl) (by rfl) (by rfl) (by exact ⟨rfl, rfl⟩)
      · simp only [show (n == op) = false by simp [hn]]
        conv => whnf
        have hW' : wordsW s op (s.size + 1 - (i + 1)) (n + 1) (i + 1) (i + 1) = W0 := by rw [← hW, hfu, wordsW, if_pos hcut, if_neg hn]
        refine ⟨[], [], relo_of [] (by rfl) (by rfl), ?_⟩
        refine ⟨⟨i + 1, i + 1, n + 1, by omega, by omega, by omega, by omega, hW', ?_, rfl⟩, hm⟩
        show wdV s op (IntKind.i64.wrap (n + 1)) (IntKind.i64.wrap ((i : Int) + 1)) (IntKind.i64.wrap ((i : Int) + 1)) = _
        rw [hw, hwn]
    · simp only [show ((i : Int) == (s.size : Int)) = false by simp; omega]
      conv => whnf
      refine ⟨by omega, by omega, ?_⟩
      simp only [Int.toNat_natCast]
      conv => whnf
      by_cases hb : byteAt s i = 32
      · have hcut : i = s.size ∨ byteAt s i = 32 := .inr hb
        simp only [show (byteAt s i == 32) = true by simp [hb]]
        conv => whnf
        by_cases hn : n = op
        · simp only [show (n == op) = true by simp [hn]]
          conv => whnf
          refine ⟨by omega, by omega, by omega, ?_⟩
          simp only [Int.toNat_natCast]
          conv => whnf
          have hr : s.extract fr i = W0 := by rw [← hW, hfu, wordsW, if_pos hcut, if_pos hn]
          rw [hr]
          exact end_of [] (by rfl) (by rfl) (by rfl) (by exact ⟨rfl, rfl⟩)
        · simp only [show (n == op) = false by simp [hn]]
          conv => whnf
          have hW' : wordsW s op (s.size + 1 - (i + 1)) (n + 1) (i + 1) (i + 1) = W0 := by rw [← hW, hfu, wordsW, if_pos hcut, if_neg hn]
          refine ⟨[], [], relo_of [] (by rfl) (by rfl), ?_⟩
          refine ⟨⟨i + 1, i + 1, n + 1, by omega, by omega, by omega, by omega, hW', ?_, rfl⟩, hm⟩
          show wdV s op (IntKind.i64.wrap (n + 1)) (IntKind.i64.wrap ((i : Int) + 1)) (IntKind.i64.wrap ((i : Int) + 1)) = _
          rw [hw, hwn]
      · have hcut : ¬ (i = s.size ∨ byteAt s i = 32) := by rintro (h | h); exact he h; exact hb h
        simp only [show (byteAt s i == 32) = false by simp [hb]]
        conv => whnf
        have hW' : wordsW s op (s.size + 1 - (i + 1)) n fr (i + 1) = W0 := by rw [← hW, hfu, wordsW, if_neg hcut]
        refine ⟨[], [], relo_of [] (by rfl) (by rfl), ?_⟩
        refine ⟨⟨i + 1, fr, n, by omega, by omega, by omega, by omega, hW', ?_, rfl⟩, hm⟩
        show wdV s op n fr (IntKind.i64.wrap ((i : Int) + 1)) = _
        rw [hw]

end Sh
end Go.Proofs.YtoegodeglgeomaaDoor
