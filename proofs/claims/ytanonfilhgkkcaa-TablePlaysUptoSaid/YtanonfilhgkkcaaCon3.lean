/- What the functions of tables compute, part 3. -/
import Derived.Test.YtanonfilhgkkcaaCon2
namespace Go.Proofs.Ytanonfilhgkkcaa
open Go
namespace Sh

def arV (l : List Val) (j : Int) : List V := [.imm .value l, .int .i64 l.length, .int .i64 j]

set_option maxRecDepth 100000 in
theorem c_allRefs (l : List Val) (hl : l.length ≤ 1048576) (ha : ∀ v ∈ l, v.type = 5) : SpecD S 52 [.imm .value l] [] (.bool true) [] := by
  refine specE ok sh52 rfl ?_
  conv => whnf
  refine loop_of [] [] (fun vs H => ∃ j : Nat, j ≤ l.length ∧ vs = arV l j ∧ H = [])
    (fun vs _ => match vs with | [_, _, .int _ j] => l.length - j.toNat | _ => 0) (by rfl) (by rfl) (by rfl) (by rfl) ⟨0, Nat.zero_le _, rfl, rfl⟩ ?_
  rintro vs H1 ⟨j, hj, rfl, rfl⟩
  conv => whnf
  cases hd : decide ((j : Int) < l.length)
  · conv => whnf
    exact end_of [] (by rfl) (by rfl) (by rfl) (by exact ⟨rfl, rfl⟩)
  · conv => whnf
    have hlt := of_decide_eq_true hd
    have hj' : j < l.length := by omega
    have hv := ha _ (List.getElem_mem hj')
    have hw : IntKind.i64.wrap ((j : Int) + 1) = ((j + 1 : Nat) : Int) := wrap_i64 (by omega) (by omega)
    refine ⟨rfl, by omega, by omega, ?_⟩
    conv => whnf
    refine ⟨by simpa using hj', by decide, ?_⟩
    rw [show l.getD (Int.toNat (j : Int)) (S.zero .value) = l[j] by simp [hj']]
    generalize l[j] = v at hv
    conv => whnf
    refine call_of [] (c_isRef v) (by rfl) (by rfl) ?_
    conv => whnf
    rw [show (v.type == 5) = true by rw [hv]; rfl]
    conv => whnf
    refine ⟨[], [], relo_of [] (by rfl) (by rfl), ?_⟩
    refine ⟨⟨j + 1, by omega, congrArg (arV l) hw, rfl⟩, ?_⟩
    show l.length - (IntKind.i64.wrap ((j : Int) + 1)).toNat < l.length - (j : Int).toNat
    rw [hw]; omega

set_option maxRecDepth 100000 in
theorem c_held (l : List Val) (hl : l.length ≤ 1048576) : SpecD S 53 [.imm .value l] [] (.agg [.bool true, .bool false, .own .value 0 0 l.length .whole]) [.row .value l] := by
  refine specE ok sh53 rfl ?_
  conv => whnf
  refine ⟨⟨by show l.length ≤ maxLen; unfold maxLen; omega, by show l.length * 40 ≤ _; omega⟩, ?_⟩
  conv => whnf
  exact end_of [1] (by rfl) (by rfl) (by rfl) (by exact ⟨rfl, rfl⟩)

def g7 : Val := ⟨1, 7, ⟨0, 0, false⟩⟩
def glo : List (AO KT ElT) := [.cells [.bool true, .bool false, .own .value 1 0 1 .whole, .int .i64 1, .bool false, .int .i64 0, .bool false], .row .value [g7]]

set_option maxRecDepth 100000 in
theorem c_newGlobal : SpecD S 51 [.agg [.int .i64 1, .bool false, .int .i64 0, .bool false], .agg [.int .i64 1, .int .u64 7, .int .i64 0, .int .u64 0, .bool false]] [] (.tup [.ptr 0 0, .int .i64 0]) glo := by
  refine specE ok sh51 rfl ?_
  conv => whnf
  refine And.intro (by repeat first | exact trivial | refine And.intro (by first | rfl | exact trivial) ?_) ?_
  conv => whnf
  refine callL_of [] [2] (c_held [g7] (by decide)) (by rfl) (by rfl) ?_ ?_ (by exact ⟨rfl, rfl⟩) ?_
  · exact ⟨⟨rfl, by decide⟩, trivial⟩
  · trivial
  conv => whnf
  refine And.intro (by repeat first | exact trivial | refine And.intro (by first | rfl | exact trivial) ?_) ?_
  conv => whnf
  exact end_of [4, 3] (by rfl) (by rfl) (by rfl) (by exact ⟨rfl, rfl⟩)

set_option maxRecDepth 100000 in
theorem c_gnone : SpecD S 71 [.ptr 0 0] glo (.bool false) glo := by
  refine specE ok sh71 rfl ?_
  conv => whnf
  exact end_of [0, 1] (by rfl) (by rfl) (by rfl) (by exact ⟨rfl, rfl⟩)

set_option maxRecDepth 100000 in
theorem c_gget : SpecD S 42 [.ptr 0 0] glo (.agg (encVal g7)) glo := by
  refine specE ok sh42 rfl ?_
  conv => whnf
  refine call_of [0, 1] (c_gnone) (by rfl) (by rfl) ?_
  conv => whnf
  refine ⟨rfl, by decide, by decide, ?_⟩
  conv => whnf
  refine ⟨rfl, by decide, (by decide : 0 + 5 ≤ 5), ?_⟩
  conv => whnf
  exact end_of [0, 1] (by rfl) (by rfl) (by rfl) (by exact ⟨rfl, rfl⟩)

set_option maxRecDepth 100000 in
theorem c_awake : SpecD S 12 [] [] (.bool true) [] := by
  refine specE ok sh12 rfl ?_
  conv => whnf
  refine call_of [] (c_newGlobal) (by rfl) (by rfl) ?_
  conv => whnf
  refine call_of [0, 1] (c_gget) (by rfl) (by rfl) ?_
  conv => whnf
  exact end_of [] (by rfl) (by rfl) (by rfl) (by exact ⟨rfl, rfl⟩)

/-! ### Init, Copy -/
def copyL (l : List Val) (to at_ k : Nat) (from_ : List Val) : List Val := l.take to ++ (from_.drop at_).take k ++ l.drop (to + k)

set_option maxRecDepth 100000 in
theorem c_init_self (m : Nat) (t : TT) (l : List Val) (to at_ k : Nat) (hm : m ≤ 1048576) (hl : l.length = m) (ha : ∀ v ∈ l, v.type = 5) (h1 : at_ + k ≤ m) (h2 : to + k ≤ m) :
    SpecD S 36 [.ptr 0 0, .int .u64 to, .own .value 1 0 m .whole, .int .u64 at_, .int .u64 k] [tab (.own .value 1 0 m .whole) t, .row .value l] (.int .i64 0) [tab (.own .value 1 0 m .whole) t, .row .value (copyL l to at_ k l)] := by
  have hx : (l.drop 0).take m = l := by rw [List.drop_zero, ← hl, List.take_length]
  refine specE ok sh36 rfl ?_
  conv => whnf
  refine callL_of [] [1] (c_held ((l.drop 0).take m) (by rw [hx]; omega)) (by rfl) (by rfl) ?_ ?_ (by exact ⟨rfl, rfl⟩) ?_
  · exact ⟨⟨rfl, by omega⟩, trivial⟩
  · trivial
  rw [hx]
  conv => whnf
  refine call_of [0, 1] (c_none m t l) (by rfl) (by rfl) ?_
  conv => whnf
  refine callL_of [] [1] (c_allRefs ((l.drop 0).take m) (by rw [hx]; omega) (by rw [hx]; exact ha)) (by rfl) (by rfl) ?_ ?_ (by exact ⟨rfl, rfl⟩) ?_
  · exact ⟨⟨rfl, by omega⟩, trivial⟩
  · trivial
  conv => whnf
  refine call_of [3, 2] (c_has_c3 l.length l at_ k (by omega)) (by rfl) (by rfl) ?_
  conv => whnf
  rw [show decide (at_ + k ≤ l.length) = true from decide_eq_true (by omega)]
  conv => whnf
  refine call_of [0, 1] (c_has_t3 m t l to k hm) (by rfl) (by rfl) ?_
  conv => whnf
  rw [show decide (to + k ≤ m) = true from decide_eq_true (by omega)]
  conv => whnf
  rw [show IntKind.u64.wrap ((to : Int) + k) = ((to + k : Nat) : Int) from wrap_u64 (by omega) (by omega)]
  refine ⟨rfl, by omega, by omega, by omega, ?_⟩
  conv => whnf
  refine ⟨rfl, by omega, by omega, by omega, ?_⟩
  conv => whnf
  simp only [Int.toNat_natCast, Nat.zero_add]
  refine ⟨trivial, by omega, ?_⟩
  conv => whnf
  refine ⟨rfl, (by show to + (to + k - to) ≤ l.length; omega), ?_⟩
  conv => whnf
  refine end_of [0, 1] (by rfl) (by rfl) (by rfl) ⟨rfl, congrArg (fun x => ([tab (.own .value 1 0 m .whole) t, .row .value x] : Heap KT ElT)) (?_ : l.take to ++ ((l.drop at_).take (l.length - at_)).take (to + k - to) ++ l.drop (to + min ((l.drop at_).take (l.length - at_)).length (to + k - to)) = copyL l to at_ k l)⟩
  have e1 : (l.drop at_).take (l.length - at_) = l.drop at_ := List.take_of_length_le (by simp)
  have e2 : to + k - to = k := by omega
  have e3 : min (l.drop at_).length k = k := by simp; omega
  rw [e1, e2, e3]
  rfl

set_option maxRecDepth 100000 in
theorem c_copy_self (m : Nat) (t : TT) (l : List Val) (to at_ k : Nat) (hm : m ≤ 1048576) (hl : l.length = m) (ha : ∀ v ∈ l, v.type = 5) (h1 : at_ + k ≤ m) (h2 : to + k ≤ m) :
    SpecD S 13 [.ptr 0 0, .int .u64 to, .ptr 0 0, .int .u64 at_, .int .u64 k] [tab (.own .value 1 0 m .whole) t, .row .value l] (.int .i64 0) [tab (.own .value 1 0 m .whole) t, .row .value (copyL l to at_ k l)] := by
  refine specE ok sh13 rfl ?_
  conv => whnf
  refine call_of [0, 1] (c_none m t l) (by rfl) (by rfl) ?_
  conv => whnf
  refine call_of [0, 1] (c_none m t l) (by rfl) (by rfl) ?_
  conv => whnf
  refine call_of [0, 1] (c_init_self m t l to at_ k hm hl ha h1 h2) (by rfl) (by rfl) ?_
  conv => whnf
  exact end_of [0, 1] (by rfl) (by rfl) (by rfl) (by exact ⟨rfl, rfl⟩)

set_option maxRecDepth 100000 in
theorem c_newTable (n : Nat) (t : TT) (v : Val) (hv : v.type = 5) (hn : n ≤ 65536) (he : t.e = n) (hg : t.g = false) :
    SpecD S 7 [t.agg, .agg (encVal v)] [] (.tup [.ptr 0 0, .int .i64 0]) [tab (.own .value 1 0 n .whole) t, .row .value (List.replicate n v)] := by
  obtain ⟨a, b, c, d, e, f, g⟩ := t
  simp only at he hg
  subst he; subst hg
  refine specE ok sh7 rfl ?_
  conv => whnf
  refine call_of [] (c_isRef v) (by rfl) (by rfl) ?_
  conv => whnf
  rw [show (v.type == 5) = true by rw [hv]; rfl]
  conv => whnf
  rw [show decide ((65536 : Int) < n) = false from decide_eq_false (by omega)]
  conv => whnf
  refine call_of [3] (c_add_nil n v ⟨a, b, c, d, n, f, false⟩ hn) (by rfl) (by rfl) ?_
  conv => whnf
  exact end_of [3, 4] (by rfl) (by rfl) (by rfl) (by exact ⟨rfl, rfl⟩)
end Sh
end Go.Proofs.Ytanonfilhgkkcaa
