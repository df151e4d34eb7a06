/- MADE BY PROGRAM (con5gen.py): what the functions of tables compute, part 5: Init and Copy. -/
import Derived.Test.YtanonfilhgkkcaaCon4
namespace Go.Proofs.Ytanonfilhgkkcaa
open Go
namespace Sh

def iniE (L M : List Val) (to a n : Nat) : Int := if allT M = true then (if a + n ≤ M.length ∧ to + n ≤ L.length then 0 else 210) else 1
def iniL (L M : List Val) (to a n : Nat) : List Val := if allT M = true ∧ a + n ≤ M.length ∧ to + n ≤ L.length then copyL L to a n M else L
theorem copyL_len' {l : List Val} {to a k : Nat} {f : List Val} (h1 : a + k ≤ f.length) (h2 : to + k ≤ l.length) : (copyL l to a k f).length = l.length := by simp [copyL]; omega
theorem iniL_len (L M : List Val) (to a n : Nat) : (iniL L M to a n).length = L.length := by
  unfold iniL; split
  · rename_i h; exact copyL_len' h.2.1 h.2.2
  · rfl
theorem tH_ini {L M : List Val} {T : TT} {to a n : Nat} (h5 : allT M = true) (h1 : a + n ≤ M.length) (h2 : to + n ≤ L.length) : tH (iniL L M to a n) T = [tab (.own .value 1 0 L.length .whole) T, .row .value (copyL L to a n M)] := by
  rw [tH, iniL_len, iniL, if_pos ⟨h5, h1, h2⟩]
theorem rH_ini {L M : List Val} {T : TT} {to a n : Nat} (h5 : allT M = true) (h1 : a + n ≤ M.length) (h2 : to + n ≤ L.length) : rH (iniL L M to a n) T = [rtab (.own .value 1 0 L.length .whole) T, .row .value (copyL L to a n M)] := by
  rw [rH, iniL_len, iniL, if_pos ⟨h5, h1, h2⟩]
theorem allT_mem {l : List Val} (h : allT l = true) : ∀ v ∈ l, v.type = 5 := fun v hv => by simpa using List.all_eq_true.1 h v hv

set_option maxRecDepth 100000 in
theorem c_Init (L M : List Val) (T : TT) (to a n : Nat) (hl : L.length ≤ 1048576) (hM : M.length ≤ 1048576) :
    SpecD S 36 [.ptr 0 0, .int .u64 to, .imm .value M, .int .u64 a, .int .u64 n] (tH L T) (.int .i64 (iniE L M to a n)) (tH (iniL L M to a n) T) := by
  have hx : (L.drop 0).take L.length = L := by rw [List.drop_zero, List.take_length]
  refine specE ok sh36 rfl ?_
  conv => whnf
  refine call_of [] (c_held M hM) (by rfl) (by rfl) ?_
  conv => whnf
  refine call_of [0, 1] (c_none L.length T L) (by rfl) (by rfl) ?_
  conv => whnf
  refine call_of [] (c_allRefsB M hM) (by rfl) (by rfl) ?_
  conv => whnf
  cases ha : allT M
  · conv => whnf
    rw [iniE, if_neg (by simp [ha]), iniL, if_neg (by simp [ha])]
    exact end_of [0, 1] (by rfl) (by rfl) (by rfl) (by exact ⟨rfl, rfl⟩)
  conv => whnf
  refine call_of [3, 2] (c_has_c3 M.length M a n hM) (by rfl) (by rfl) ?_
  conv => whnf
  cases h1 : decide (a + n ≤ M.length)
  · conv => whnf
    have := of_decide_eq_false h1
    rw [iniE, if_pos ha, if_neg (by omega), iniL, if_neg (by omega)]
    exact end_of [0, 1] (by rfl) (by rfl) (by rfl) (by exact ⟨rfl, rfl⟩)
  conv => whnf
  have h1' := of_decide_eq_true h1
  refine call_of [0, 1] (c_has_t3 L.length T L to n hl) (by rfl) (by rfl) ?_
  conv => whnf
  cases h2 : decide (to + n ≤ L.length)
  · conv => whnf
    have := of_decide_eq_false h2
    rw [iniE, if_pos ha, if_neg (by omega), iniL, if_neg (by omega)]
    exact end_of [0, 1] (by rfl) (by rfl) (by rfl) (by exact ⟨rfl, rfl⟩)
  conv => whnf
  have h2' := of_decide_eq_true h2
  rw [iniE, if_pos ha, if_pos (show a + n ≤ M.length ∧ to + n ≤ L.length from ⟨h1', h2'⟩), tH_ini ha h1' h2']
  rw [show IntKind.u64.wrap ((to : Int) + n) = ((to + n : Nat) : Int) from wrap_u64 (by omega) (by omega)]
  refine ⟨rfl, by omega, by omega, by omega, ?_⟩
  conv => whnf
  refine ⟨rfl, by omega, by omega, by omega, ?_⟩
  conv => whnf
  simp only [Int.toNat_natCast, Nat.zero_add]
  refine ⟨trivial, by omega, ?_⟩
  conv => whnf
  refine ⟨rfl, (by show to + (to + n - to) ≤ L.length; omega), ?_⟩
  conv => whnf
  refine end_of [0, 1] (by rfl) (by rfl) (by rfl) ⟨rfl, congrArg (fun x => ([tab (.own .value 1 0 L.length .whole) T, .row .value x] : Heap KT ElT)) (?_ : L.take to ++ ((M.drop a).take (M.length - a)).take (to + n - to) ++ L.drop (to + min ((M.drop a).take (M.length - a)).length (to + n - to)) = copyL L to a n M)⟩
  have e1 : (M.drop a).take (M.length - a) = M.drop a := List.take_of_length_le (by simp)
  have e2 : to + n - to = n := by omega
  have e3 : min (M.drop a).length n = n := by simp; omega
  rw [e1, e2, e3]
  rfl

set_option maxRecDepth 100000 in
theorem c_InitS (L : List Val) (T : TT) (to a n : Nat) (hl : L.length ≤ 1048576) :
    SpecD S 36 [.ptr 0 0, .int .u64 to, .own .value 1 0 L.length .whole, .int .u64 a, .int .u64 n] (tH L T) (.int .i64 (iniE L L to a n)) (tH (iniL L L to a n) T) := by
  have hx : (L.drop 0).take L.length = L := by rw [List.drop_zero, List.take_length]
  refine specE ok sh36 rfl ?_
  conv => whnf
  refine callL_of [] [1] (c_held ((L.drop 0).take L.length) (by rw [hx]; exact hl)) (by rfl) (by rfl) ?_ ?_ (by exact ⟨rfl, rfl⟩) ?_
  · exact ⟨⟨rfl, by omega⟩, trivial⟩
  · trivial
  rw [hx]
  conv => whnf
  refine call_of [0, 1] (c_none L.length T L) (by rfl) (by rfl) ?_
  conv => whnf
  refine callL_of [] [1] (c_allRefsB ((L.drop 0).take L.length) (by rw [hx]; exact hl)) (by rfl) (by rfl) ?_ ?_ (by exact ⟨rfl, rfl⟩) ?_
  · exact ⟨⟨rfl, by omega⟩, trivial⟩
  · trivial
  rw [hx]
  conv => whnf
  cases ha : allT L
  · conv => whnf
    rw [iniE, if_neg (by simp [ha]), iniL, if_neg (by simp [ha])]
    exact end_of [0, 1] (by rfl) (by rfl) (by rfl) (by exact ⟨rfl, rfl⟩)
  conv => whnf
  refine call_of [3, 2] (c_has_c3 L.length L a n hl) (by rfl) (by rfl) ?_
  conv => whnf
  cases h1 : decide (a + n ≤ L.length)
  · conv => whnf
    have := of_decide_eq_false h1
    rw [iniE, if_pos ha, if_neg (by omega), iniL, if_neg (by omega)]
    exact end_of [0, 1] (by rfl) (by rfl) (by rfl) (by exact ⟨rfl, rfl⟩)
  conv => whnf
  have h1' := of_decide_eq_true h1
  refine call_of [0, 1] (c_has_t3 L.length T L to n hl) (by rfl) (by rfl) ?_
  conv => whnf
  cases h2 : decide (to + n ≤ L.length)
  · conv => whnf
    have := of_decide_eq_false h2
    rw [iniE, if_pos ha, if_neg (by omega), iniL, if_neg (by omega)]
    exact end_of [0, 1] (by rfl) (by rfl) (by rfl) (by exact ⟨rfl, rfl⟩)
  conv => whnf
  have h2' := of_decide_eq_true h2
  rw [iniE, if_pos ha, if_pos (show a + n ≤ L.length ∧ to + n ≤ L.length from ⟨h1', h2'⟩), tH_ini ha h1' h2']
  rw [show IntKind.u64.wrap ((to : Int) + n) = ((to + n : Nat) : Int) from wrap_u64 (by omega) (by omega)]
  refine ⟨rfl, by omega, by omega, by omega, ?_⟩
  conv => whnf
  refine ⟨rfl, by omega, by omega, by omega, ?_⟩
  conv => whnf
  simp only [Int.toNat_natCast, Nat.zero_add]
  refine ⟨trivial, by omega, ?_⟩
  conv => whnf
  refine ⟨rfl, (by show to + (to + n - to) ≤ L.length; omega), ?_⟩
  conv => whnf
  refine end_of [0, 1] (by rfl) (by rfl) (by rfl) ⟨rfl, congrArg (fun x => ([tab (.own .value 1 0 L.length .whole) T, .row .value x] : Heap KT ElT)) (?_ : L.take to ++ ((L.drop a).take (L.length - a)).take (to + n - to) ++ L.drop (to + min ((L.drop a).take (L.length - a)).length (to + n - to)) = copyL L to a n L)⟩
  have e1 : (L.drop a).take (L.length - a) = L.drop a := List.take_of_length_le (by simp)
  have e2 : to + n - to = n := by omega
  have e3 : min (L.drop a).length n = n := by simp; omega
  rw [e1, e2, e3]
  rfl

def riV (M : List Val) (to a n j : Int) : List V := [.ptr 0 0, .int .u64 to, .imm .value M, .int .u64 a, .int .u64 n, .int .u64 j]

theorem copyL_zero (L M : List Val) (to a : Nat) : copyL L to a 0 M = L := by simp [copyL]
theorem copyL_succ {L M : List Val} {to a j : Nat} (h1 : a + j < M.length) (h2 : to + j < L.length) : (copyL L to a j M).set (to + j) M[a + j] = copyL L to a (j + 1) M := by
  have hl : (L.take to ++ (M.drop a).take j).length = to + j := by simp; omega
  rw [copyL, List.set_append_right _ _ (by omega), hl, Nat.sub_self, List.drop_eq_getElem_cons h2, List.set_cons_zero, copyL, List.take_add_one (l := M.drop a), List.getElem?_drop, List.getElem?_eq_getElem h1]
  simp [Nat.add_assoc]

set_option maxRecDepth 100000 in
theorem c_rInit (L M : List Val) (T : TT) (to a n : Nat) (hl : L.length ≤ 1048576) (hM : M.length ≤ 1048576) (hn : n ≤ 18446744073709551615) :
    SpecD S 68 [.ptr 0 0, .int .u64 to, .imm .value M, .int .u64 a, .int .u64 n] (rH L T) (.int .i64 (iniE L M to a n)) (rH (iniL L M to a n) T) := by
  refine specE ok sh68 rfl ?_
  conv => whnf
  refine call_of [] (c_allR M hM) (by rfl) (by rfl) ?_
  conv => whnf
  cases ha : allT M
  · conv => whnf
    rw [iniE, if_neg (by simp [ha]), iniL, if_neg (by simp [ha])]
    exact end_of [0, 1] (by rfl) (by rfl) (by rfl) (by exact ⟨rfl, rfl⟩)
  conv => whnf
  rw [show IntKind.u64.wrap (M.length : Int) = M.length from wrap_u64 (by omega) (by omega)]
  refine call_of [] (c_fits a n M.length hM) (by rfl) (by rfl) ?_
  conv => whnf
  cases h1 : decide (a + n ≤ M.length)
  · conv => whnf
    have := of_decide_eq_false h1
    rw [iniE, if_pos ha, if_neg (by omega), iniL, if_neg (by omega)]
    exact end_of [0, 1] (by rfl) (by rfl) (by rfl) (by exact ⟨rfl, rfl⟩)
  conv => whnf
  have h1' := of_decide_eq_true h1
  rw [show IntKind.u64.wrap (L.length : Int) = L.length from wrap_u64 (by omega) (by omega)]
  refine call_of [] (c_fits to n L.length hl) (by rfl) (by rfl) ?_
  conv => whnf
  cases h2 : decide (to + n ≤ L.length)
  · conv => whnf
    have := of_decide_eq_false h2
    rw [iniE, if_pos ha, if_neg (by omega), iniL, if_neg (by omega)]
    exact end_of [0, 1] (by rfl) (by rfl) (by rfl) (by exact ⟨rfl, rfl⟩)
  conv => whnf
  have h2' := of_decide_eq_true h2
  rw [iniE, if_pos ha, if_pos (show a + n ≤ M.length ∧ to + n ≤ L.length from ⟨h1', h2'⟩), rH_ini ha h1' h2']
  refine loop_of [] [0, 1] (fun vs H => ∃ j : Nat, j ≤ n ∧ vs = riV M to a n j ∧ H = [rtab (.own .value 1 0 L.length .whole) T, .row .value (copyL L to a j M)])
    (fun vs _ => match vs with | [_, _, _, _, _, .int _ j] => n - j.toNat | _ => 0) (by rfl) (by rfl) (by rfl) (by rfl) ⟨0, Nat.zero_le _, rfl, by rw [copyL_zero]; rfl⟩ ?_
  rintro vs H1 ⟨j, hj, rfl, rfl⟩
  conv => whnf
  cases hd : decide ((j : Int) < n)
  · conv => whnf
    have := of_decide_eq_false hd
    obtain rfl : j = n := by omega
    exact end_of [0, 1] (by rfl) (by rfl) (by rfl) (by exact ⟨rfl, rfl⟩)
  · conv => whnf
    have hlt := of_decide_eq_true hd
    have hw : IntKind.u64.wrap ((j : Int) + 1) = ((j + 1 : Nat) : Int) := wrap_u64 (by omega) (by omega)
    have hw2 : IntKind.u64.wrap ((to : Int) + j) = ((to + j : Nat) : Int) := wrap_u64 (by omega) (by omega)
    have hw3 : IntKind.u64.wrap ((a : Int) + j) = ((a + j : Nat) : Int) := wrap_u64 (by omega) (by omega)
    have hcl : (copyL L to a j M).length = L.length := copyL_len' (by omega) (by omega)
    have hs := @copyL_succ L M to a j (by omega) (by omega)
    have hg : M.getD (Int.toNat ((a + j : Nat) : Int)) (S.zero .value) = M[a + j]'(by omega) := by rw [Int.toNat_natCast, List.getD_eq_getElem?_getD, List.getElem?_eq_getElem (by omega)]; rfl
    generalize M[a + j]'(by omega) = v at hs hg
    rw [hw3]
    refine ⟨rfl, by omega, by omega, ?_⟩
    conv => whnf
    refine ⟨by rw [Int.toNat_natCast]; omega, by decide, ?_⟩
    rw [hg]
    conv => whnf
    rw [hw2]
    refine ⟨rfl, by omega, by omega, ?_⟩
    rw [Nat.zero_add, Int.toNat_natCast]
    conv => whnf
    refine ⟨rfl, by omega, (by decide : 0 + 5 ≤ 5), ?_⟩
    conv => whnf
    refine ⟨[0, 1], [], relo_of [0, 1] (by rfl) (by rfl), ?_⟩
    refine ⟨⟨j + 1, by omega, congrArg (riV M to a n) hw, congrArg (fun x => ([rtab (.own .value 1 0 L.length .whole) T, .row .value x] : Heap KT ElT)) hs⟩, ?_⟩
    show n - (IntKind.u64.wrap ((j : Int) + 1)).toNat < n - (j : Int).toNat
    rw [hw]; omega

set_option maxRecDepth 100000 in
theorem c_CopyS (L : List Val) (T : TT) (to a n : Nat) (hl : L.length ≤ 1048576) :
    SpecD S 13 [.ptr 0 0, .int .u64 to, .ptr 0 0, .int .u64 a, .int .u64 n] (tH L T) (.int .i64 (iniE L L to a n)) (tH (iniL L L to a n) T) := by
  refine specE ok sh13 rfl ?_
  conv => whnf
  refine call_of [0, 1] (c_none L.length T L) (by rfl) (by rfl) ?_
  conv => whnf
  refine call_of [0, 1] (c_none L.length T L) (by rfl) (by rfl) ?_
  conv => whnf
  refine call_of [0, 1] (c_InitS L T to a n hl) (by rfl) (by rfl) ?_
  conv => whnf
  exact end_of [0, 1] (by rfl) (by rfl) (by rfl) (by exact ⟨rfl, rfl⟩)

theorem c_InitE (E L M : List Val) (e : E = M) (T : TT) (to a n : Nat) (hl : L.length ≤ 1048576) (hM : M.length ≤ 1048576) :
    SpecD S 36 [.ptr 0 0, .int .u64 to, .imm .value E, .int .u64 a, .int .u64 n] (tH L T) (.int .i64 (iniE L M to a n)) (tH (iniL L M to a n) T) := by subst e; exact c_Init L E T to a n hl hM

set_option maxRecDepth 100000 in
theorem c_CopyO (L M : List Val) (T U : TT) (to a n : Nat) (hl : L.length ≤ 1048576) (hM : M.length ≤ 1048576) :
    SpecD S 13 [.ptr 0 0, .int .u64 to, .ptr 2 0, .int .u64 a, .int .u64 n] [tab (.own .value 1 0 L.length .whole) T, .row .value L, tab (.own .value 3 0 M.length .whole) U, .row .value M] (.int .i64 (iniE L M to a n))
      [tab (.own .value 1 0 (iniL L M to a n).length .whole) T, .row .value (iniL L M to a n), tab (.own .value 3 0 M.length .whole) U, .row .value M] := by
  refine specE ok sh13 rfl ?_
  conv => whnf
  refine call_of [0, 1] (c_none L.length T L) (by rfl) (by rfl) ?_
  conv => whnf
  refine call_of [2, 3] (c_none M.length U M) (by rfl) (by rfl) ?_
  conv => whnf
  refine callL_of [0, 1] [3] (c_InitE _ L M (by simp) T to a n hl hM) (by rfl) (by rfl) ?_ ?_ (by exact ⟨rfl, rfl⟩) ?_
  · exact ⟨trivial, trivial, ⟨rfl, by simp⟩, trivial, trivial, trivial⟩
  · exact ⟨⟨trivial, trivial, trivial, trivial, trivial, trivial, trivial, trivial, trivial, trivial, trivial⟩, trivial, trivial⟩
  conv => whnf
  exact end_of [0, 1, 2, 3] (by rfl) (by rfl) (by rfl) (by exact ⟨rfl, rfl⟩)

theorem c_copiedE (E M : List Val) (e : E = M) (hl : M.length ≤ 1048576) : SpecD S 55 [.imm .value E] [] (.own .value 0 0 M.length .whole) [.row .value M] := by subst e; exact c_copied E hl
theorem c_rInitE (E L M : List Val) (e : E = M) (T : TT) (to a n : Nat) (hl : L.length ≤ 1048576) (hM : M.length ≤ 1048576) (hn : n ≤ 18446744073709551615) :
    SpecD S 68 [.ptr 0 0, .int .u64 to, .imm .value E, .int .u64 a, .int .u64 n] (rH L T) (.int .i64 (iniE L M to a n)) (rH (iniL L M to a n) T) := by subst e; exact c_rInit L E T to a n hl hM hn

set_option maxRecDepth 100000 in
theorem c_rCopyS (L : List Val) (T : TT) (to a n : Nat) (hl : L.length ≤ 1048576) (hn : n ≤ 18446744073709551615) :
    SpecD S 67 [.ptr 0 0, .int .u64 to, .ptr 0 0, .int .u64 a, .int .u64 n] (rH L T) (.int .i64 (iniE L L to a n)) (rH (iniL L L to a n) T) := by
  refine specE ok sh67 rfl ?_
  conv => whnf
  refine callL_of [] [1] (c_copiedE _ L (by simp) hl) (by rfl) (by rfl) ?_ ?_ (by exact ⟨rfl, rfl⟩) ?_
  · exact ⟨⟨rfl, by simp⟩, trivial⟩
  · trivial
  conv => whnf
  refine callL_of [0, 1] [2] (c_rInitE _ L L (by simp) T to a n hl hl hn) (by rfl) (by rfl) ?_ ?_ (by exact ⟨rfl, rfl⟩) ?_
  · exact ⟨trivial, trivial, ⟨rfl, by simp⟩, trivial, trivial, trivial⟩
  · exact ⟨⟨trivial, trivial, trivial, trivial, trivial, trivial, trivial, trivial, trivial⟩, trivial, trivial⟩
  conv => whnf
  exact end_of [0, 1] (by rfl) (by rfl) (by rfl) (by exact ⟨rfl, rfl⟩)

set_option maxRecDepth 100000 in
theorem c_rCopyO (L M : List Val) (T U : TT) (to a n : Nat) (hl : L.length ≤ 1048576) (hM : M.length ≤ 1048576) (hn : n ≤ 18446744073709551615) :
    SpecD S 67 [.ptr 0 0, .int .u64 to, .ptr 2 0, .int .u64 a, .int .u64 n] [rtab (.own .value 1 0 L.length .whole) T, .row .value L, rtab (.own .value 3 0 M.length .whole) U, .row .value M] (.int .i64 (iniE L M to a n))
      [rtab (.own .value 1 0 (iniL L M to a n).length .whole) T, .row .value (iniL L M to a n), rtab (.own .value 3 0 M.length .whole) U, .row .value M] := by
  refine specE ok sh67 rfl ?_
  conv => whnf
  refine callL_of [] [3] (c_copiedE _ M (by simp) hM) (by rfl) (by rfl) ?_ ?_ (by exact ⟨rfl, rfl⟩) ?_
  · exact ⟨⟨rfl, by simp⟩, trivial⟩
  · trivial
  conv => whnf
  refine callL_of [0, 1] [4] (c_rInitE _ L M (by simp) T to a n hl hM hn) (by rfl) (by rfl) ?_ ?_ (by exact ⟨rfl, rfl⟩) ?_
  · exact ⟨trivial, trivial, ⟨rfl, by simp⟩, trivial, trivial, trivial⟩
  · exact ⟨⟨trivial, trivial, trivial, trivial, trivial, trivial, trivial, trivial, trivial⟩, trivial, trivial⟩
  conv => whnf
  exact end_of [0, 1, 2, 3] (by rfl) (by rfl) (by rfl) (by exact ⟨rfl, rfl⟩)
end Sh
end Go.Proofs.Ytanonfilhgkkcaa
