/- MADE BY PROGRAM (seglaw.py): TableSegments: what the law's function answers. -/
import Derived.Test.YtanonfilhgkkcaaSeg2
namespace Go.Proofs.Ytanonfilhgkkcaa
open Go
namespace Sh

theorem strEq_refl (a : ByteArray) : strEq a a = true := by rw [strEq_iff]; simp

theorem c_newDataE (E b : List Int) (e : E = b) (hb : b.length ≤ 1048576) : SpecD S 16 [.imm .u8 E] [] (.ptr 0 0) (data b) := by subst e; exact c_newData E hb
theorem c_newElemE (E l : List Val) (e : E = l) (hl : l.length ≤ 1048576) (ha : allT l = true) : SpecD S 14 [.imm .value E] [] (.tup [.ptr 0 0, .int .i64 0]) (elem l) := by subst e; exact c_newElem E hl ha
theorem c_newElem0E (E l : List Val) (e : E = l) (hl : l.length ≤ 1048576) (ha : allT l = false) : SpecD S 14 [.imm .value E] [] (.tup [.nilp, .int .i64 1]) [] := by subst e; exact c_newElem0 E hl ha
theorem c_eSetE (E : List Ref) (l : List Val) (r : List Ref) (e : E = r) (hl : l.length ≤ 1048576) (hr : (refsOf l).length = r.length) : SpecD S 27 [.ptr 0 0, .imm .ref E] (elem l) (.int .i64 0) (elem (layR l r)) := by subst e; exact c_eSet l E hl hr
theorem c_eSet0E (E : List Ref) (l : List Val) (r : List Ref) (e : E = r) (hl : l.length ≤ 1048576) (hr : (refsOf l).length ≠ r.length) : SpecD S 27 [.ptr 0 0, .imm .ref E] (elem l) (.int .i64 1) (elem l) := by subst e; exact c_eSet0 l E hl hr
theorem c_valuesE (E l : List Val) (e : E = l) (hl : l.length ≤ 1048576) : SpecD S 21 [.imm .value E, .imm .value l] [] (.bool true) [] := by subst e; exact c_values E hl
theorem c_sameE (E F a : List Ref) (e : E = a) (f : F = a) (hl : a.length ≤ 1048576) : SpecD S 9 [.imm .ref E, .imm .ref F] [] (.bool true) [] := by subst e; subst f; exact c_same _ hl
theorem c_valuesEE (E F a : List Val) (e : E = a) (f : F = a) (hl : a.length ≤ 1048576) : SpecD S 21 [.imm .value E, .imm .value F] [] (.bool true) [] := by subst e; subst f; exact c_values _ hl

def sgV (l : List Val) (b : List Int) (r : List Ref) (e : V) (m n : Nat) (j : Int) : List V :=
  [.imm .value l, .imm .u8 b, .imm .ref r, .own .value 0 0 m .whole, e, .own .u8 1 0 n .whole, .ptr 2 0, .int .i64 j]
def sgV2 (l : List Val) (b : List Int) (r : List Ref) (e : V) (n : Nat) (j : Int) : List V :=
  [.imm .value l, .imm .u8 b, .imm .ref r, e, .own .u8 0 0 n .whole, .ptr 1 0, .int .i64 j]

set_option maxRecDepth 100000 in
set_option maxHeartbeats 4000000 in
theorem c_segs0 (l : List Val) (b : List Int) (r : List Ref) (hl : l.length ≤ 1048576) (hb : b.length ≤ 1048576) (hr : r.length ≤ 1048576) (ha : allT l = false) :
    SpecD S 4 [.imm .value l, .imm .u8 b, .imm .ref r] [] (.bool true) [] := by
  refine specE ok sh4 rfl ?_
  conv => whnf
  refine ⟨rfl, by simp, ⟨by unfold maxLen; simp; omega, by simp [S]; omega⟩, rfl, ?_⟩
  conv => whnf
  refine callL_of [] [1] (c_newElem0E _ l (by simp) hl ha) (by rfl) (by rfl) ?_ ?_ (by exact ⟨rfl, rfl⟩) ?_
  · exact ⟨⟨rfl, by simp⟩, trivial⟩
  · trivial
  conv => whnf
  refine call_of [] (c_rnewElem0 l hl ha) (by rfl) (by rfl) ?_
  conv => whnf
  refine ⟨rfl, by simp, ⟨by unfold maxLen; simp; omega, by simp [S]; omega⟩, rfl, ?_⟩
  conv => whnf
  refine callL_of [] [3] (c_newDataE _ b (by simp) hb) (by rfl) (by rfl) ?_ ?_ (by exact ⟨rfl, rfl⟩) ?_
  · exact ⟨⟨rfl, by simp⟩, trivial⟩
  · trivial
  conv => whnf
  refine loop_of [] [1, 3, 4, 5] (fun vs H => ∃ (j m n : Nat) (xs : List Val) (ys : List Int), m = l.length ∧ n = b.length ∧ xs.length = l.length ∧ ys.length = b.length ∧ j ≤ m ∧ vs = sgV l b r .nilp m n j ∧ H = [.row .value xs, .row .u8 ys, cell3 (.own .u8 3 0 b.length .whole), .row .u8 b])
    (fun vs _ => match vs with | [_, _, _, _, _, _, _, .int _ j] => l.length - j.toNat | _ => 0) (by rfl) (by rfl) (by rfl) (by rfl) ⟨0, _, _, _, _, ?_, ?_, ?_, ?_, Nat.zero_le _, rfl, rfl⟩ ?_
  · simp
  · simp
  · simp
  · simp
  rintro vs H1 ⟨j, m, n, xs, ys, rfl, rfl, hxs, hys, hj, rfl, rfl⟩
  conv => whnf
  cases hd : decide ((j : Int) < l.length)
  rotate_left
  · have hlt := of_decide_eq_true hd
    have hw : IntKind.i64.wrap ((j : Int) + 1) = ((j + 1 : Nat) : Int) := wrap_i64 (by omega) (by omega)
    conv => whnf
    refine ⟨rfl, by omega, by omega, ?_⟩
    conv => whnf
    refine ⟨rfl, by omega, by decide, ?_⟩
    conv => whnf
    refine ⟨rfl, by omega, by omega, ?_⟩
    conv => whnf
    refine ⟨rfl, by omega, (by decide : 1 + 1 ≤ 5), ?_⟩
    conv => whnf
    refine ⟨[0, 1, 2, 3], [], relo_of [0, 1, 2, 3] (by rfl) (by rfl), ?_⟩
    refine ⟨⟨j + 1, _, _, _, ys, rfl, rfl, ?_, hys, by omega, congrArg (sgV l b r .nilp l.length b.length) hw, rfl⟩, ?_⟩
    · rw [List.length_set]; exact hxs
    · show l.length - (IntKind.i64.wrap ((j : Int) + 1)).toNat < l.length - (j : Int).toNat
      rw [hw]; omega
  conv => whnf
  refine loop_of [] [1, 2, 3] (fun vs H => ∃ (j : Nat) (ys : List Int), ys.length = b.length ∧ j ≤ b.length ∧ vs = sgV2 l b r .nilp b.length j ∧ H = [.row .u8 ys, cell3 (.own .u8 2 0 b.length .whole), .row .u8 b])
    (fun vs _ => match vs with | [_, _, _, _, _, _, .int _ j] => b.length - j.toNat | _ => 0) (by rfl) (by rfl) (by rfl) (by rfl) ⟨0, _, hys, Nat.zero_le _, rfl, rfl⟩ ?_
  clear hys hxs hd hj ys xs j
  rintro vs H1 ⟨j, ys, hys, hj, rfl, rfl⟩
  conv => whnf
  cases hd : decide ((j : Int) < b.length)
  rotate_left
  · have hlt := of_decide_eq_true hd
    have hw : IntKind.i64.wrap ((j : Int) + 1) = ((j + 1 : Nat) : Int) := wrap_i64 (by omega) (by omega)
    conv => whnf
    refine ⟨rfl, by omega, by omega, ?_⟩
    conv => whnf
    refine ⟨rfl, by omega, by decide, ?_⟩
    conv => whnf
    refine ⟨rfl, by omega, by omega, ?_⟩
    conv => whnf
    refine ⟨rfl, by omega, (by decide : 0 + 1 ≤ 1), ?_⟩
    conv => whnf
    refine ⟨[0, 1, 2], [], relo_of [0, 1, 2] (by rfl) (by rfl), ?_⟩
    refine ⟨⟨j + 1, _, ?_, by omega, congrArg (sgV2 l b r .nilp b.length) hw, rfl⟩, ?_⟩
    · rw [List.length_set]; exact hys
    · show b.length - (IntKind.i64.wrap ((j : Int) + 1)).toNat < b.length - (j : Int).toNat
      rw [hw]; omega
  conv => whnf
  refine ⟨⟨rfl, fun y _ => ⟨y, rfl⟩⟩, ?_⟩
  conv => whnf
  refine call_of [1, 2] (c_items_u8 b hb) (by rfl) (by rfl) ?_
  conv => whnf
  refine And.intro (by repeat first | exact trivial | refine And.intro (by first | rfl | exact trivial) ?_) ?_
  conv => whnf
  refine ⟨rfl, by simp, ?_⟩
  conv => whnf
  refine ⟨⟨rfl, fun y _ => ⟨y, rfl⟩⟩, ?_⟩
  conv => whnf
  cases hs : !(strEq (bytesS S .u8 ((b.drop 0).take b.length)) (bytesS S .u8 b))
  rotate_left
  · rw [List.drop_zero, List.take_length, strEq_refl] at hs; cases hs
  conv => whnf
  refine call_of [1, 2] (c_len_u8 b hb) (by rfl) (by rfl) ?_
  conv => whnf
  refine And.intro (by repeat first | exact trivial | refine And.intro (by first | rfl | exact trivial) ?_) ?_
  conv => whnf
  rw [show IntKind.u64.wrap (b.length : Int) = b.length from wrap_u64 (by omega) (by omega)]
  cases hq : ((b.length : Int) != b.length)
  rotate_left
  · simp at hq
  conv => whnf
  refine call_of [1, 2] (c_dropped_u8 b) (by rfl) (by rfl) ?_
  conv => whnf
  try (refine And.intro (by repeat first | exact trivial | refine And.intro (by first | rfl | exact trivial) ?_) ?_; conv => whnf)
  refine call_of [1, 2] (c_Drop_u8 b) (by rfl) (by rfl) ?_
  conv => whnf
  try (refine And.intro (by repeat first | exact trivial | refine And.intro (by first | rfl | exact trivial) ?_) ?_; conv => whnf)
  refine call_of [1, 2] (c_Drop0_u8 b) (by rfl) (by rfl) ?_
  conv => whnf
  try (refine And.intro (by repeat first | exact trivial | refine And.intro (by first | rfl | exact trivial) ?_) ?_; conv => whnf)
  refine call_of [1, 2] (c_dropped0_u8 b) (by rfl) (by rfl) ?_
  conv => whnf
  try (refine And.intro (by repeat first | exact trivial | refine And.intro (by first | rfl | exact trivial) ?_) ?_; conv => whnf)
  refine call_of [1, 2] (c_len0_u8 b) (by rfl) (by rfl) ?_
  conv => whnf
  try (refine And.intro (by repeat first | exact trivial | refine And.intro (by first | rfl | exact trivial) ?_) ?_; conv => whnf)
  refine call_of [1, 2] (c_items0_u8 b) (by rfl) (by rfl) ?_
  conv => whnf
  try (refine And.intro (by repeat first | exact trivial | refine And.intro (by first | rfl | exact trivial) ?_) ?_; conv => whnf)
  refine call_of [] (c_awake) (by rfl) (by rfl) ?_
  conv => whnf
  exact end_of [] (by rfl) (by rfl) (by rfl) (by exact ⟨rfl, rfl⟩)

set_option maxRecDepth 100000 in
set_option maxHeartbeats 4000000 in
theorem c_segs1 (l : List Val) (b : List Int) (r : List Ref) (hl : l.length ≤ 1048576) (hb : b.length ≤ 1048576) (hr : r.length ≤ 1048576) (ha : allT l = true) :
    SpecD S 4 [.imm .value l, .imm .u8 b, .imm .ref r] [] (.bool true) [] := by
  refine specE ok sh4 rfl ?_
  conv => whnf
  refine ⟨rfl, by simp, ⟨by unfold maxLen; simp; omega, by simp [S]; omega⟩, rfl, ?_⟩
  conv => whnf
  refine callL_of [] [1] (c_newElemE _ l (by simp) hl ha) (by rfl) (by rfl) ?_ ?_ (by exact ⟨rfl, rfl⟩) ?_
  · exact ⟨⟨rfl, by simp⟩, trivial⟩
  · trivial
  conv => whnf
  refine call_of [] (c_rnewElem l hl ha) (by rfl) (by rfl) ?_
  conv => whnf
  refine ⟨rfl, by simp, ⟨by unfold maxLen; simp; omega, by simp [S]; omega⟩, rfl, ?_⟩
  conv => whnf
  refine callL_of [] [7] (c_newDataE _ b (by simp) hb) (by rfl) (by rfl) ?_ ?_ (by exact ⟨rfl, rfl⟩) ?_
  · exact ⟨⟨rfl, by simp⟩, trivial⟩
  · trivial
  conv => whnf
  refine loop_of [] [1, 7, 8, 9, 2, 3] (fun vs H => ∃ (j m n : Nat) (xs : List Val) (ys : List Int), m = l.length ∧ n = b.length ∧ xs.length = l.length ∧ ys.length = b.length ∧ j ≤ m ∧ vs = sgV l b r (.ptr 4 0) m n j ∧ H = [.row .value xs, .row .u8 ys, cell3 (.own .u8 3 0 b.length .whole), .row .u8 b, cell3 (.own .value 5 0 l.length .whole), .row .value l])
    (fun vs _ => match vs with | [_, _, _, _, _, _, _, .int _ j] => l.length - j.toNat | _ => 0) (by rfl) (by rfl) (by rfl) (by rfl) ⟨0, _, _, _, _, ?_, ?_, ?_, ?_, Nat.zero_le _, rfl, rfl⟩ ?_
  · simp
  · simp
  · simp
  · simp
  rintro vs H1 ⟨j, m, n, xs, ys, rfl, rfl, hxs, hys, hj, rfl, rfl⟩
  conv => whnf
  cases hd : decide ((j : Int) < l.length)
  rotate_left
  · have hlt := of_decide_eq_true hd
    have hw : IntKind.i64.wrap ((j : Int) + 1) = ((j + 1 : Nat) : Int) := wrap_i64 (by omega) (by omega)
    conv => whnf
    refine ⟨rfl, by omega, by omega, ?_⟩
    conv => whnf
    refine ⟨rfl, by omega, by decide, ?_⟩
    conv => whnf
    refine ⟨rfl, by omega, by omega, ?_⟩
    conv => whnf
    refine ⟨rfl, by omega, (by decide : 1 + 1 ≤ 5), ?_⟩
    conv => whnf
    refine ⟨[0, 1, 2, 3, 4, 5], [], relo_of [0, 1, 2, 3, 4, 5] (by rfl) (by rfl), ?_⟩
    refine ⟨⟨j + 1, _, _, _, ys, rfl, rfl, ?_, hys, by omega, congrArg (sgV l b r (.ptr 4 0) l.length b.length) hw, rfl⟩, ?_⟩
    · rw [List.length_set]; exact hxs
    · show l.length - (IntKind.i64.wrap ((j : Int) + 1)).toNat < l.length - (j : Int).toNat
      rw [hw]; omega
  conv => whnf
  refine loop_of [] [1, 2, 3, 4, 5] (fun vs H => ∃ (j : Nat) (ys : List Int), ys.length = b.length ∧ j ≤ b.length ∧ vs = sgV2 l b r (.ptr 3 0) b.length j ∧ H = [.row .u8 ys, cell3 (.own .u8 2 0 b.length .whole), .row .u8 b, cell3 (.own .value 4 0 l.length .whole), .row .value l])
    (fun vs _ => match vs with | [_, _, _, _, _, _, .int _ j] => b.length - j.toNat | _ => 0) (by rfl) (by rfl) (by rfl) (by rfl) ⟨0, _, hys, Nat.zero_le _, rfl, rfl⟩ ?_
  clear hys hxs hd hj ys xs j
  rintro vs H1 ⟨j, ys, hys, hj, rfl, rfl⟩
  conv => whnf
  cases hd : decide ((j : Int) < b.length)
  rotate_left
  · have hlt := of_decide_eq_true hd
    have hw : IntKind.i64.wrap ((j : Int) + 1) = ((j + 1 : Nat) : Int) := wrap_i64 (by omega) (by omega)
    conv => whnf
    refine ⟨rfl, by omega, by omega, ?_⟩
    conv => whnf
    refine ⟨rfl, by omega, by decide, ?_⟩
    conv => whnf
    refine ⟨rfl, by omega, by omega, ?_⟩
    conv => whnf
    refine ⟨rfl, by omega, (by decide : 0 + 1 ≤ 1), ?_⟩
    conv => whnf
    refine ⟨[0, 1, 2, 3, 4], [], relo_of [0, 1, 2, 3, 4] (by rfl) (by rfl), ?_⟩
    refine ⟨⟨j + 1, _, ?_, by omega, congrArg (sgV2 l b r (.ptr 3 0) b.length) hw, rfl⟩, ?_⟩
    · rw [List.length_set]; exact hys
    · show b.length - (IntKind.i64.wrap ((j : Int) + 1)).toNat < b.length - (j : Int).toNat
      rw [hw]; omega
  conv => whnf
  refine ⟨⟨rfl, fun y _ => ⟨y, rfl⟩⟩, ?_⟩
  conv => whnf
  refine call_of [1, 2] (c_items_u8 b hb) (by rfl) (by rfl) ?_
  conv => whnf
  refine And.intro (by repeat first | exact trivial | refine And.intro (by first | rfl | exact trivial) ?_) ?_
  conv => whnf
  refine ⟨rfl, by simp, ?_⟩
  conv => whnf
  refine ⟨⟨rfl, fun y _ => ⟨y, rfl⟩⟩, ?_⟩
  conv => whnf
  cases hs : !(strEq (bytesS S .u8 ((b.drop 0).take b.length)) (bytesS S .u8 b))
  rotate_left
  · rw [List.drop_zero, List.take_length, strEq_refl] at hs; cases hs
  conv => whnf
  refine call_of [1, 2] (c_len_u8 b hb) (by rfl) (by rfl) ?_
  conv => whnf
  refine And.intro (by repeat first | exact trivial | refine And.intro (by first | rfl | exact trivial) ?_) ?_
  conv => whnf
  rw [show IntKind.u64.wrap (b.length : Int) = b.length from wrap_u64 (by omega) (by omega)]
  cases hq : ((b.length : Int) != b.length)
  rotate_left
  · simp at hq
  conv => whnf
  refine call_of [1, 2] (c_dropped_u8 b) (by rfl) (by rfl) ?_
  conv => whnf
  try (refine And.intro (by repeat first | exact trivial | refine And.intro (by first | rfl | exact trivial) ?_) ?_; conv => whnf)
  refine call_of [1, 2] (c_Drop_u8 b) (by rfl) (by rfl) ?_
  conv => whnf
  try (refine And.intro (by repeat first | exact trivial | refine And.intro (by first | rfl | exact trivial) ?_) ?_; conv => whnf)
  refine call_of [1, 2] (c_Drop0_u8 b) (by rfl) (by rfl) ?_
  conv => whnf
  try (refine And.intro (by repeat first | exact trivial | refine And.intro (by first | rfl | exact trivial) ?_) ?_; conv => whnf)
  refine call_of [1, 2] (c_dropped0_u8 b) (by rfl) (by rfl) ?_
  conv => whnf
  try (refine And.intro (by repeat first | exact trivial | refine And.intro (by first | rfl | exact trivial) ?_) ?_; conv => whnf)
  refine call_of [1, 2] (c_len0_u8 b) (by rfl) (by rfl) ?_
  conv => whnf
  try (refine And.intro (by repeat first | exact trivial | refine And.intro (by first | rfl | exact trivial) ?_) ?_; conv => whnf)
  refine call_of [1, 2] (c_items0_u8 b) (by rfl) (by rfl) ?_
  conv => whnf
  try (refine And.intro (by repeat first | exact trivial | refine And.intro (by first | rfl | exact trivial) ?_) ?_; conv => whnf)
  refine call_of [3, 4] (c_items_value l hl) (by rfl) (by rfl) ?_
  conv => whnf
  try (refine And.intro (by repeat first | exact trivial | refine And.intro (by first | rfl | exact trivial) ?_) ?_; conv => whnf)
  refine callL_of [] [7] (c_valuesE _ l (by simp) hl) (by rfl) (by rfl) ?_ ?_ (by exact ⟨rfl, rfl⟩) ?_
  · exact ⟨⟨rfl, by simp⟩, trivial, trivial⟩
  · trivial
  conv => whnf
  try (refine And.intro (by repeat first | exact trivial | refine And.intro (by first | rfl | exact trivial) ?_) ?_; conv => whnf)
  refine call_of [3, 4] (c_len_value l hl) (by rfl) (by rfl) ?_
  conv => whnf
  try (refine And.intro (by repeat first | exact trivial | refine And.intro (by first | rfl | exact trivial) ?_) ?_; conv => whnf)
  rw [show IntKind.u64.wrap (l.length : Int) = l.length from wrap_u64 (by omega) (by omega)]
  cases hq2 : ((l.length : Int) != l.length)
  rotate_left
  · simp at hq2
  conv => whnf
  refine call_of [3, 4] (c_dropped_value l) (by rfl) (by rfl) ?_
  conv => whnf
  try (refine And.intro (by repeat first | exact trivial | refine And.intro (by first | rfl | exact trivial) ?_) ?_; conv => whnf)
  refine call_of [3, 4] (c_eRefs l hl) (by rfl) (by rfl) ?_
  conv => whnf
  try (refine And.intro (by repeat first | exact trivial | refine And.intro (by first | rfl | exact trivial) ?_) ?_; conv => whnf)
  refine call_of [] (c_rRefs l hl) (by rfl) (by rfl) ?_
  conv => whnf
  try (refine And.intro (by repeat first | exact trivial | refine And.intro (by first | rfl | exact trivial) ?_) ?_; conv => whnf)
  have hrl : (refsOf l).length ≤ 1048576 := Nat.le_trans (refsOf_le l) hl
  refine callL_of [] [8, 9] (c_sameE _ _ (refsOf l) (by simp) (by simp) hrl) (by rfl) (by rfl) ?_ ?_ (by exact ⟨rfl, rfl⟩) ?_
  · exact ⟨⟨rfl, Nat.le_of_eq (Nat.zero_add _)⟩, ⟨rfl, Nat.le_of_eq (Nat.zero_add _)⟩, trivial⟩
  · trivial
  conv => whnf
  refine ⟨rfl, by simp, ⟨by unfold maxLen; simp; omega, by simp [S]; omega⟩, rfl, ?_⟩
  conv => whnf
  by_cases hn : (refsOf l).length = r.length
  · refine callL_of [3, 4] [11] (c_eSetE _ l r (by simp) hl hn) (by rfl) (by rfl) ?_ ?_ (by exact ⟨rfl, rfl⟩) ?_
    · exact ⟨trivial, ⟨rfl, by simp⟩, trivial⟩
    · exact ⟨⟨trivial, trivial, trivial, trivial⟩, trivial, trivial⟩
    conv => whnf
    have hll : (layR l r).length = l.length := layR_len l r
    refine call_of [] (c_rSet l r hl hn) (by rfl) (by rfl) ?_
    conv => whnf
    try (refine And.intro (by repeat first | exact trivial | refine And.intro (by first | rfl | exact trivial) ?_) ?_; conv => whnf)
    refine call_of [3, 4] (c_items_value (layR l r) (by omega)) (by rfl) (by rfl) ?_
    conv => whnf
    try (refine And.intro (by repeat first | exact trivial | refine And.intro (by first | rfl | exact trivial) ?_) ?_; conv => whnf)
    refine callL_of [] [13, 12] (c_valuesEE _ _ (layR l r) (by simp) (by rw [← hll]; simp) (by omega)) (by rfl) (by rfl) ?_ ?_ (by exact ⟨rfl, rfl⟩) ?_
    · exact ⟨⟨rfl, by simp⟩, ⟨rfl, by rw [hll]; simp⟩, trivial⟩
    · trivial
    conv => whnf
    try (refine And.intro (by repeat first | exact trivial | refine And.intro (by first | rfl | exact trivial) ?_) ?_; conv => whnf)
    refine call_of [3, 4] (c_Drop_value (layR l r)) (by rfl) (by rfl) ?_
    conv => whnf
    try (refine And.intro (by repeat first | exact trivial | refine And.intro (by first | rfl | exact trivial) ?_) ?_; conv => whnf)
    refine call_of [3, 4] (c_dropped0_value (layR l r)) (by rfl) (by rfl) ?_
    conv => whnf
    try (refine And.intro (by repeat first | exact trivial | refine And.intro (by first | rfl | exact trivial) ?_) ?_; conv => whnf)
    refine call_of [3, 4] (c_len0_value (layR l r)) (by rfl) (by rfl) ?_
    conv => whnf
    try (refine And.intro (by repeat first | exact trivial | refine And.intro (by first | rfl | exact trivial) ?_) ?_; conv => whnf)
    refine call_of [3, 4] (c_eRefs0 (layR l r)) (by rfl) (by rfl) ?_
    conv => whnf
    try (refine And.intro (by repeat first | exact trivial | refine And.intro (by first | rfl | exact trivial) ?_) ?_; conv => whnf)
    refine call_of [3, 4] (c_Drop0_value (layR l r)) (by rfl) (by rfl) ?_
    conv => whnf
    try (refine And.intro (by repeat first | exact trivial | refine And.intro (by first | rfl | exact trivial) ?_) ?_; conv => whnf)
    refine call_of [] (c_awake) (by rfl) (by rfl) ?_
    conv => whnf
    exact end_of [] (by rfl) (by rfl) (by rfl) (by exact ⟨rfl, rfl⟩)
  · refine callL_of [3, 4] [11] (c_eSet0E _ l r (by simp) hl hn) (by rfl) (by rfl) ?_ ?_ (by exact ⟨rfl, rfl⟩) ?_
    · exact ⟨trivial, ⟨rfl, by simp⟩, trivial⟩
    · exact ⟨⟨trivial, trivial, trivial, trivial⟩, trivial, trivial⟩
    conv => whnf
    refine call_of [] (c_rSet0 l r hl hn) (by rfl) (by rfl) ?_
    conv => whnf
    try (refine And.intro (by repeat first | exact trivial | refine And.intro (by first | rfl | exact trivial) ?_) ?_; conv => whnf)
    refine call_of [3, 4] (c_items_value l hl) (by rfl) (by rfl) ?_
    conv => whnf
    try (refine And.intro (by repeat first | exact trivial | refine And.intro (by first | rfl | exact trivial) ?_) ?_; conv => whnf)
    refine callL_of [] [12] (c_valuesE _ l (by simp) hl) (by rfl) (by rfl) ?_ ?_ (by exact ⟨rfl, rfl⟩) ?_
    · exact ⟨⟨rfl, by simp⟩, trivial, trivial⟩
    · trivial
    conv => whnf
    try (refine And.intro (by repeat first | exact trivial | refine And.intro (by first | rfl | exact trivial) ?_) ?_; conv => whnf)
    refine call_of [3, 4] (c_Drop_value l) (by rfl) (by rfl) ?_
    conv => whnf
    try (refine And.intro (by repeat first | exact trivial | refine And.intro (by first | rfl | exact trivial) ?_) ?_; conv => whnf)
    refine call_of [3, 4] (c_dropped0_value l) (by rfl) (by rfl) ?_
    conv => whnf
    try (refine And.intro (by repeat first | exact trivial | refine And.intro (by first | rfl | exact trivial) ?_) ?_; conv => whnf)
    refine call_of [3, 4] (c_len0_value l) (by rfl) (by rfl) ?_
    conv => whnf
    try (refine And.intro (by repeat first | exact trivial | refine And.intro (by first | rfl | exact trivial) ?_) ?_; conv => whnf)
    refine call_of [3, 4] (c_eRefs0 l) (by rfl) (by rfl) ?_
    conv => whnf
    try (refine And.intro (by repeat first | exact trivial | refine And.intro (by first | rfl | exact trivial) ?_) ?_; conv => whnf)
    refine call_of [3, 4] (c_Drop0_value l) (by rfl) (by rfl) ?_
    conv => whnf
    try (refine And.intro (by repeat first | exact trivial | refine And.intro (by first | rfl | exact trivial) ?_) ?_; conv => whnf)
    refine call_of [] (c_awake) (by rfl) (by rfl) ?_
    conv => whnf
    exact end_of [] (by rfl) (by rfl) (by rfl) (by exact ⟨rfl, rfl⟩)

theorem c_segs (l : List Val) (b : List Int) (r : List Ref) (hl : l.length ≤ 1048576) (hb : b.length ≤ 1048576) (hr : r.length ≤ 1048576) :
    SpecD S 4 [.imm .value l, .imm .u8 b, .imm .ref r] [] (.bool true) [] := by
  cases ha : allT l
  · exact c_segs0 l b r hl hb hr ha
  · exact c_segs1 l b r hl hb hr ha

end Sh
end Go.Proofs.Ytanonfilhgkkcaa
