/- What the functions of tables compute, part 2. -/
import Derived.Test.YtanonfilhgkkcaaCon
namespace Go.Proofs.Ytanonfilhgkkcaa
open Go
namespace Sh

set_option maxRecDepth 100000 in
theorem c_none (n : Nat) (t : TT) (l : List Val) : SpecD S 48 [.ptr 0 0] [tab (.own .value 1 0 n .whole) t, .row .value l] (.bool false) [tab (.own .value 1 0 n .whole) t, .row .value l] := by
  refine specE ok sh48 rfl ?_
  conv => whnf
  exact end_of [0, 1] (by rfl) (by rfl) (by rfl) (by exact ⟨rfl, rfl⟩)

def cell3 (s : V) : AO KT ElT := .cells [.bool true, .bool false, s]

set_option maxRecDepth 100000 in
theorem c_size_t3 (n : Nat) (t : TT) (l : List Val) (hn : n ≤ 1048576) : SpecD S 70 [.ptr 0 0] [tab (.own .value 1 0 n .whole) t, .row .value l] (.int .u64 n) [tab (.own .value 1 0 n .whole) t, .row .value l] := by
  refine specE ok sh70 rfl ?_
  conv => whnf
  rw [show IntKind.u64.wrap (n : Int) = n from wrap_u64 (by omega) (by omega)]
  exact end_of [0, 1] (by rfl) (by rfl) (by rfl) (by exact ⟨rfl, rfl⟩)

set_option maxRecDepth 100000 in
theorem c_has_t3 (n : Nat) (t : TT) (l : List Val) (at_ k : Nat) (hn : n ≤ 1048576) : SpecD S 49 [.ptr 0 0, .int .u64 at_, .int .u64 k] [tab (.own .value 1 0 n .whole) t, .row .value l]
    (.bool (decide (at_ + k ≤ n))) [tab (.own .value 1 0 n .whole) t, .row .value l] := by
  refine specE ok sh49 rfl ?_
  conv => whnf
  refine call_of [0, 1] (c_size_t3 n  t l hn) (by rfl) (by rfl) ?_
  conv => whnf
  cases h : decide ((at_ : Int) ≤ n)
  · conv => whnf
    have := of_decide_eq_false h
    rw [show decide (at_ + k ≤ n) = false from decide_eq_false (by omega)]
    exact end_of [0, 1] (by rfl) (by rfl) (by rfl) (by exact ⟨rfl, rfl⟩)
  · conv => whnf
    refine call_of [0, 1] (c_size_t3 n  t l hn) (by rfl) (by rfl) ?_
    conv => whnf
    have := of_decide_eq_true h
    rw [show IntKind.u64.wrap ((n : Int) - at_) = ((n - at_ : Nat) : Int) from (wrap_u64 (by omega) (by omega)).trans (by omega), show decide ((k : Int) ≤ ((n - at_ : Nat) : Int)) = decide (at_ + k ≤ n) from decide_eq_decide.2 (by omega)]
    exact end_of [0, 1] (by rfl) (by rfl) (by rfl) (by exact ⟨rfl, rfl⟩)
set_option maxRecDepth 100000 in
theorem c_size_c3 (n : Nat) (l : List Val) (hn : n ≤ 1048576) : SpecD S 70 [.ptr 0 0] [cell3 (.own .value 1 0 n .whole), .row .value l] (.int .u64 n) [cell3 (.own .value 1 0 n .whole), .row .value l] := by
  refine specE ok sh70 rfl ?_
  conv => whnf
  rw [show IntKind.u64.wrap (n : Int) = n from wrap_u64 (by omega) (by omega)]
  exact end_of [0, 1] (by rfl) (by rfl) (by rfl) (by exact ⟨rfl, rfl⟩)

set_option maxRecDepth 100000 in
theorem c_has_c3 (n : Nat) (l : List Val) (at_ k : Nat) (hn : n ≤ 1048576) : SpecD S 49 [.ptr 0 0, .int .u64 at_, .int .u64 k] [cell3 (.own .value 1 0 n .whole), .row .value l]
    (.bool (decide (at_ + k ≤ n))) [cell3 (.own .value 1 0 n .whole), .row .value l] := by
  refine specE ok sh49 rfl ?_
  conv => whnf
  refine call_of [0, 1] (c_size_c3 n  l hn) (by rfl) (by rfl) ?_
  conv => whnf
  cases h : decide ((at_ : Int) ≤ n)
  · conv => whnf
    have := of_decide_eq_false h
    rw [show decide (at_ + k ≤ n) = false from decide_eq_false (by omega)]
    exact end_of [0, 1] (by rfl) (by rfl) (by rfl) (by exact ⟨rfl, rfl⟩)
  · conv => whnf
    refine call_of [0, 1] (c_size_c3 n  l hn) (by rfl) (by rfl) ?_
    conv => whnf
    have := of_decide_eq_true h
    rw [show IntKind.u64.wrap ((n : Int) - at_) = ((n - at_ : Nat) : Int) from (wrap_u64 (by omega) (by omega)).trans (by omega), show decide ((k : Int) ≤ ((n - at_ : Nat) : Int)) = decide (at_ + k ≤ n) from decide_eq_decide.2 (by omega)]
    exact end_of [0, 1] (by rfl) (by rfl) (by rfl) (by exact ⟨rfl, rfl⟩)

/-! ### Fill -/
def fillL (l : List Val) (at_ k : Nat) (v : Val) : List Val := l.take at_ ++ List.replicate k v ++ l.drop (at_ + k)

theorem fillL_len {l : List Val} {at_ k : Nat} {v : Val} (h : at_ + k ≤ l.length) : (fillL l at_ k v).length = l.length := by simp [fillL]; omega

theorem fillL_zero (l : List Val) (at_ : Nat) (v : Val) : fillL l at_ 0 v = l := by simp [fillL]

theorem fillL_succ {l : List Val} {at_ k : Nat} {v : Val} (h : at_ + k < l.length) : (fillL l at_ k v).set (at_ + k) v = fillL l at_ (k + 1) v := by
  have hl : (l.take at_ ++ List.replicate k v).length = at_ + k := by simp; omega
  rw [fillL, List.set_append_right _ _ (by omega), hl, Nat.sub_self, List.drop_eq_getElem_cons h, List.set_cons_zero, fillL, List.replicate_succ', ← List.append_assoc (l.take at_), List.append_assoc _ [v], show at_ + (k + 1) = at_ + k + 1 from rfl]
  rfl

def fiV (at_ n j : Int) : List V := [.ptr 0 0, .int .u64 at_, .ptr 2 0, .int .u64 n, .int .u64 j]
def fiH (m : Nat) (t : TT) (v : Val) (l : List Val) : Heap KT ElT := [tab (.own .value 1 0 m .whole) t, .row .value l, .cells (encVal v)]

set_option maxRecDepth 100000 in
theorem c_fill_no (m : Nat) (t : TT) (l : List Val) (at_ k : Nat) (v : Val) (hv : v.type = 5) (hm : m ≤ 1048576) (hb : m < at_ + k) :
    SpecD S 8 [.ptr 0 0, .int .u64 at_, .agg (encVal v), .int .u64 k] [tab (.own .value 1 0 m .whole) t, .row .value l] (.int .i64 210) [tab (.own .value 1 0 m .whole) t, .row .value l] := by
  refine specE ok sh8 rfl ?_
  conv => whnf
  refine call_of [0, 1] (c_none m t l) (by rfl) (by rfl) ?_
  conv => whnf
  refine call_of [] (c_isRef v) (by rfl) (by rfl) ?_
  conv => whnf
  rw [show (v.type == 5) = true by rw [hv]; rfl]
  conv => whnf
  refine call_of [0, 1] (c_has_t3 m t l at_ k hm) (by rfl) (by rfl) ?_
  conv => whnf
  rw [show decide (at_ + k ≤ m) = false from decide_eq_false (by omega)]
  conv => whnf
  exact end_of [0, 1] (by rfl) (by rfl) (by rfl) (by exact ⟨rfl, rfl⟩)

set_option maxRecDepth 100000 in
theorem c_fill (m : Nat) (t : TT) (l : List Val) (at_ k : Nat) (v : Val) (hv : v.type = 5) (hm : m ≤ 1048576) (hl : l.length = m) (hb : at_ + k ≤ m) :
    SpecD S 8 [.ptr 0 0, .int .u64 at_, .agg (encVal v), .int .u64 k] [tab (.own .value 1 0 m .whole) t, .row .value l] (.int .i64 0) [tab (.own .value 1 0 m .whole) t, .row .value (fillL l at_ k v)] := by
  refine specE ok sh8 rfl ?_
  conv => whnf
  refine call_of [0, 1] (c_none m t l) (by rfl) (by rfl) ?_
  conv => whnf
  refine call_of [] (c_isRef v) (by rfl) (by rfl) ?_
  conv => whnf
  rw [show (v.type == 5) = true by rw [hv]; rfl]
  conv => whnf
  refine call_of [0, 1] (c_has_t3 m t l at_ k hm) (by rfl) (by rfl) ?_
  conv => whnf
  rw [show decide (at_ + k ≤ m) = true from decide_eq_true (by omega)]
  conv => whnf
  refine loop_of [] [0, 1, 2] (fun vs H => ∃ j : Nat, j ≤ k ∧ vs = fiV at_ k j ∧ H = fiH m t v (fillL l at_ j v))
    (fun vs _ => match vs with | [_, _, _, _, .int _ j] => k - j.toNat | _ => 0) (by rfl) (by rfl) (by rfl) (by rfl) ⟨0, Nat.zero_le _, rfl, by rw [fillL_zero]; rfl⟩ ?_
  rintro vs H1 ⟨j, hj, rfl, rfl⟩
  conv => whnf
  cases hd : decide ((j : Int) < k)
  · conv => whnf
    have := of_decide_eq_false hd
    obtain rfl : j = k := by omega
    exact end_of [0, 1] (by rfl) (by rfl) (by rfl) (by exact ⟨rfl, rfl⟩)
  · conv => whnf
    have hlt := of_decide_eq_true hd
    have hw : IntKind.u64.wrap ((j : Int) + 1) = ((j + 1 : Nat) : Int) := wrap_u64 (by omega) (by omega)
    have hw2 : IntKind.u64.wrap ((at_ : Int) + j) = ((at_ + j : Nat) : Int) := wrap_u64 (by omega) (by omega)
    have hfl := fillL_len (l := l) (at_ := at_) (k := j) (v := v) (by omega)
    rw [hw2]
    refine ⟨rfl, by omega, by omega, ?_⟩
    rw [Nat.zero_add, Int.toNat_natCast]
    conv => whnf
    refine ⟨rfl, by omega, (by decide : 0 + 5 ≤ 5), ?_⟩
    conv => whnf
    have hx : fiH m t v ((fillL l at_ j v).set (at_ + j) v) = fiH m t v (fillL l at_ (j + 1) v) := by rw [fillL_succ (by omega)]
    refine ⟨[0, 1, 2], [], relo_of [0, 1, 2] (by rfl) (by rfl), ?_⟩
    refine ⟨⟨j + 1, by omega, congrArg (fiV at_ k) hw, hx⟩, ?_⟩
    show k - (IntKind.u64.wrap ((j : Int) + 1)).toNat < k - (j : Int).toNat
    rw [hw]; omega

/-! ### refs of a table -/
set_option maxRecDepth 100000 in
theorem c_Refs (m : Nat) (t : TT) (l : List Val) (hm : m ≤ 1048576) (hl : l.length = m) :
    SpecD S 10 [.ptr 0 0] [tab (.own .value 1 0 m .whole) t, .row .value l] (.own .ref 2 0 (refsOf l).length .whole) [tab (.own .value 1 0 m .whole) t, .row .value l, .row .ref (refsOf l)] := by
  have hx : (l.drop 0).take m = l := by rw [List.drop_zero, ← hl, List.take_length]
  refine specE ok sh10 rfl ?_
  conv => whnf
  refine call_of [0, 1] (c_none m t l) (by rfl) (by rfl) ?_
  conv => whnf
  refine callL_of [] [1] (c_refs ((l.drop 0).take m) (by rw [hx]; omega)) (by rfl) (by rfl) ?_ ?_ (by exact ⟨rfl, rfl⟩) ?_
  · exact ⟨⟨rfl, by omega⟩, trivial⟩
  · trivial
  rw [hx]
  conv => whnf
  exact end_of [0, 1, 2] (by rfl) (by rfl) (by rfl) (by exact ⟨rfl, rfl⟩)
end Sh
end Go.Proofs.Ytanonfilhgkkcaa
