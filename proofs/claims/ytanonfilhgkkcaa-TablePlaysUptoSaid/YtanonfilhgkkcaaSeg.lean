/- MADE BY PROGRAM (seggen.py): what the functions of segments compute. -/
import Derived.Test.YtanonfilhgkkcaaShadeC
import Derived.Test.YtanonfilhgkkcaaCon3
namespace Go.Proofs.Ytanonfilhgkkcaa
open Go
namespace Sh

/-- A segment that was dropped. -/
def gone3 : AO KT ElT := .cells [.bool true, .bool true, .nils]

set_option maxRecDepth 100000 in
theorem c_all_value (l : List Val) (hl : l.length ≤ 1048576) : SpecD S 59 [.ptr 0 0] [cell3 (.own .value 1 0 l.length .whole), .row .value l] (.own .value 2 0 l.length .whole) [cell3 (.own .value 1 0 l.length .whole), .row .value l, .row .value l] := by
  have hx : (l.drop 0).take l.length = l := by rw [List.drop_zero, List.take_length]
  refine specE ok sh59 rfl ?_
  conv => whnf
  refine ⟨rfl, by omega, ?_⟩
  conv => whnf
  refine ⟨⟨by show ((l.drop 0).take l.length).length ≤ maxLen; rw [hx]; unfold maxLen; omega, by show ((l.drop 0).take l.length).length * 40 ≤ _; rw [hx]; omega⟩, ?_⟩
  conv => whnf
  refine end_of [0, 1, 2] (by rfl) (by rfl) (by rfl) ⟨?_, ?_⟩
  · show (AV.own .value 2 0 ((l.drop 0).take l.length).length .whole : V) = _
    rw [hx]
  · show ([cell3 (.own .value 1 0 l.length .whole), .row .value l, .row .value ((l.drop 0).take l.length)] : Heap KT ElT) = _
    rw [hx]

set_option maxRecDepth 100000 in
theorem c_all0_value (l : List Val) : SpecD S 59 [.ptr 0 0] [gone3, .row .value l] (.own .value 2 0 0 .whole) [gone3, .row .value l, .row .value []] := by
  refine specE ok sh59 rfl ?_
  conv => whnf
  refine ⟨⟨by decide, by decide⟩, ?_⟩
  conv => whnf
  exact end_of [0, 1, 2] (by rfl) (by rfl) (by rfl) (by exact ⟨rfl, rfl⟩)

set_option maxRecDepth 100000 in
theorem c_items_value (l : List Val) (hl : l.length ≤ 1048576) : SpecD S 22 [.ptr 0 0] [cell3 (.own .value 1 0 l.length .whole), .row .value l] (.own .value 2 0 l.length .whole) [cell3 (.own .value 1 0 l.length .whole), .row .value l, .row .value l] := by
  refine specE ok sh22 rfl ?_
  conv => whnf
  refine call_of [0, 1] (c_all_value l hl) (by rfl) (by rfl) ?_
  conv => whnf
  exact end_of [0, 1, 2] (by rfl) (by rfl) (by rfl) (by exact ⟨rfl, rfl⟩)

set_option maxRecDepth 100000 in
theorem c_items0_value (l : List Val) : SpecD S 22 [.ptr 0 0] [gone3, .row .value l] (.own .value 2 0 0 .whole) [gone3, .row .value l, .row .value []] := by
  refine specE ok sh22 rfl ?_
  conv => whnf
  refine call_of [0, 1] (c_all0_value l) (by rfl) (by rfl) ?_
  conv => whnf
  exact end_of [0, 1, 2] (by rfl) (by rfl) (by rfl) (by exact ⟨rfl, rfl⟩)

set_option maxRecDepth 100000 in
theorem c_len_value (l : List Val) (hl : l.length ≤ 1048576) : SpecD S 23 [.ptr 0 0] [cell3 (.own .value 1 0 l.length .whole), .row .value l] (.int .u64 l.length) [cell3 (.own .value 1 0 l.length .whole), .row .value l] := by
  refine specE ok sh23 rfl ?_
  conv => whnf
  refine call_of [0, 1] (c_items_value l hl) (by rfl) (by rfl) ?_
  conv => whnf
  rw [show IntKind.u64.wrap (l.length : Int) = l.length from wrap_u64 (by omega) (by omega)]
  exact end_of [0, 1] (by rfl) (by rfl) (by rfl) (by exact ⟨rfl, rfl⟩)

set_option maxRecDepth 100000 in
theorem c_len0_value (l : List Val) : SpecD S 23 [.ptr 0 0] [gone3, .row .value l] (.int .u64 0) [gone3, .row .value l] := by
  refine specE ok sh23 rfl ?_
  conv => whnf
  refine call_of [0, 1] (c_items0_value l) (by rfl) (by rfl) ?_
  conv => whnf
  exact end_of [0, 1] (by rfl) (by rfl) (by rfl) (by exact ⟨rfl, rfl⟩)

set_option maxRecDepth 100000 in
theorem c_dropped_value (l : List Val) : SpecD S 24 [.ptr 0 0] [cell3 (.own .value 1 0 l.length .whole), .row .value l] (.bool false) [cell3 (.own .value 1 0 l.length .whole), .row .value l] := by
  refine specE ok sh24 rfl ?_
  conv => whnf
  exact end_of [0, 1] (by rfl) (by rfl) (by rfl) (by exact ⟨rfl, rfl⟩)

set_option maxRecDepth 100000 in
theorem c_dropped0_value (l : List Val) : SpecD S 24 [.ptr 0 0] [gone3, .row .value l] (.bool true) [gone3, .row .value l] := by
  refine specE ok sh24 rfl ?_
  conv => whnf
  exact end_of [0, 1] (by rfl) (by rfl) (by rfl) (by exact ⟨rfl, rfl⟩)

set_option maxRecDepth 100000 in
theorem c_drop_value (l : List Val) : SpecD S 61 [.ptr 0 0] [cell3 (.own .value 1 0 l.length .whole), .row .value l] (.int .i64 0) [gone3, .row .value l] := by
  refine specE ok sh61 rfl ?_
  conv => whnf
  exact end_of [0, 1] (by rfl) (by rfl) (by rfl) (by exact ⟨rfl, rfl⟩)

set_option maxRecDepth 100000 in
theorem c_drop0_value (l : List Val) : SpecD S 61 [.ptr 0 0] [gone3, .row .value l] (.int .i64 0) [gone3, .row .value l] := by
  refine specE ok sh61 rfl ?_
  conv => whnf
  exact end_of [0, 1] (by rfl) (by rfl) (by rfl) (by exact ⟨rfl, rfl⟩)

set_option maxRecDepth 100000 in
theorem c_Drop_value (l : List Val) : SpecD S 29 [.ptr 0 0] [cell3 (.own .value 1 0 l.length .whole), .row .value l] (.int .i64 0) [gone3, .row .value l] := by
  refine specE ok sh29 rfl ?_
  conv => whnf
  refine call_of [0, 1] (c_drop_value l) (by rfl) (by rfl) ?_
  conv => whnf
  exact end_of [0, 1] (by rfl) (by rfl) (by rfl) (by exact ⟨rfl, rfl⟩)

set_option maxRecDepth 100000 in
theorem c_Drop0_value (l : List Val) : SpecD S 29 [.ptr 0 0] [gone3, .row .value l] (.int .i64 0) [gone3, .row .value l] := by
  refine specE ok sh29 rfl ?_
  conv => whnf
  refine call_of [0, 1] (c_drop0_value l) (by rfl) (by rfl) ?_
  conv => whnf
  exact end_of [0, 1] (by rfl) (by rfl) (by rfl) (by exact ⟨rfl, rfl⟩)

set_option maxRecDepth 100000 in
theorem c_heldB (l : List Int) (hl : l.length ≤ 1048576) : SpecD S 56 [.imm .u8 l] [] (.agg [.bool true, .bool false, .own .u8 0 0 l.length .whole]) [.row .u8 l] := by
  refine specE ok sh56 rfl ?_
  conv => whnf
  refine ⟨⟨by show l.length ≤ maxLen; unfold maxLen; omega, by show l.length * 1 ≤ _; omega⟩, ?_⟩
  conv => whnf
  exact end_of [1] (by rfl) (by rfl) (by rfl) (by exact ⟨rfl, rfl⟩)

set_option maxRecDepth 100000 in
theorem c_all_u8 (l : List Int) (hl : l.length ≤ 1048576) : SpecD S 57 [.ptr 0 0] [cell3 (.own .u8 1 0 l.length .whole), .row .u8 l] (.own .u8 2 0 l.length .whole) [cell3 (.own .u8 1 0 l.length .whole), .row .u8 l, .row .u8 l] := by
  have hx : (l.drop 0).take l.length = l := by rw [List.drop_zero, List.take_length]
  refine specE ok sh57 rfl ?_
  conv => whnf
  refine ⟨rfl, by omega, ?_⟩
  conv => whnf
  refine ⟨⟨by show ((l.drop 0).take l.length).length ≤ maxLen; rw [hx]; unfold maxLen; omega, by show ((l.drop 0).take l.length).length * 1 ≤ _; rw [hx]; omega⟩, ?_⟩
  conv => whnf
  refine end_of [0, 1, 2] (by rfl) (by rfl) (by rfl) ⟨?_, ?_⟩
  · show (AV.own .u8 2 0 ((l.drop 0).take l.length).length .whole : V) = _
    rw [hx]
  · show ([cell3 (.own .u8 1 0 l.length .whole), .row .u8 l, .row .u8 ((l.drop 0).take l.length)] : Heap KT ElT) = _
    rw [hx]

set_option maxRecDepth 100000 in
theorem c_all0_u8 (l : List Int) : SpecD S 57 [.ptr 0 0] [gone3, .row .u8 l] (.own .u8 2 0 0 .whole) [gone3, .row .u8 l, .row .u8 []] := by
  refine specE ok sh57 rfl ?_
  conv => whnf
  refine ⟨⟨by decide, by decide⟩, ?_⟩
  conv => whnf
  exact end_of [0, 1, 2] (by rfl) (by rfl) (by rfl) (by exact ⟨rfl, rfl⟩)

set_option maxRecDepth 100000 in
theorem c_items_u8 (l : List Int) (hl : l.length ≤ 1048576) : SpecD S 17 [.ptr 0 0] [cell3 (.own .u8 1 0 l.length .whole), .row .u8 l] (.own .u8 2 0 l.length .whole) [cell3 (.own .u8 1 0 l.length .whole), .row .u8 l, .row .u8 l] := by
  refine specE ok sh17 rfl ?_
  conv => whnf
  refine call_of [0, 1] (c_all_u8 l hl) (by rfl) (by rfl) ?_
  conv => whnf
  exact end_of [0, 1, 2] (by rfl) (by rfl) (by rfl) (by exact ⟨rfl, rfl⟩)

set_option maxRecDepth 100000 in
theorem c_items0_u8 (l : List Int) : SpecD S 17 [.ptr 0 0] [gone3, .row .u8 l] (.own .u8 2 0 0 .whole) [gone3, .row .u8 l, .row .u8 []] := by
  refine specE ok sh17 rfl ?_
  conv => whnf
  refine call_of [0, 1] (c_all0_u8 l) (by rfl) (by rfl) ?_
  conv => whnf
  exact end_of [0, 1, 2] (by rfl) (by rfl) (by rfl) (by exact ⟨rfl, rfl⟩)

set_option maxRecDepth 100000 in
theorem c_len_u8 (l : List Int) (hl : l.length ≤ 1048576) : SpecD S 18 [.ptr 0 0] [cell3 (.own .u8 1 0 l.length .whole), .row .u8 l] (.int .u64 l.length) [cell3 (.own .u8 1 0 l.length .whole), .row .u8 l] := by
  refine specE ok sh18 rfl ?_
  conv => whnf
  refine call_of [0, 1] (c_items_u8 l hl) (by rfl) (by rfl) ?_
  conv => whnf
  rw [show IntKind.u64.wrap (l.length : Int) = l.length from wrap_u64 (by omega) (by omega)]
  exact end_of [0, 1] (by rfl) (by rfl) (by rfl) (by exact ⟨rfl, rfl⟩)

set_option maxRecDepth 100000 in
theorem c_len0_u8 (l : List Int) : SpecD S 18 [.ptr 0 0] [gone3, .row .u8 l] (.int .u64 0) [gone3, .row .u8 l] := by
  refine specE ok sh18 rfl ?_
  conv => whnf
  refine call_of [0, 1] (c_items0_u8 l) (by rfl) (by rfl) ?_
  conv => whnf
  exact end_of [0, 1] (by rfl) (by rfl) (by rfl) (by exact ⟨rfl, rfl⟩)

set_option maxRecDepth 100000 in
theorem c_dropped_u8 (l : List Int) : SpecD S 19 [.ptr 0 0] [cell3 (.own .u8 1 0 l.length .whole), .row .u8 l] (.bool false) [cell3 (.own .u8 1 0 l.length .whole), .row .u8 l] := by
  refine specE ok sh19 rfl ?_
  conv => whnf
  exact end_of [0, 1] (by rfl) (by rfl) (by rfl) (by exact ⟨rfl, rfl⟩)

set_option maxRecDepth 100000 in
theorem c_dropped0_u8 (l : List Int) : SpecD S 19 [.ptr 0 0] [gone3, .row .u8 l] (.bool true) [gone3, .row .u8 l] := by
  refine specE ok sh19 rfl ?_
  conv => whnf
  exact end_of [0, 1] (by rfl) (by rfl) (by rfl) (by exact ⟨rfl, rfl⟩)

set_option maxRecDepth 100000 in
theorem c_drop_u8 (l : List Int) : SpecD S 58 [.ptr 0 0] [cell3 (.own .u8 1 0 l.length .whole), .row .u8 l] (.int .i64 0) [gone3, .row .u8 l] := by
  refine specE ok sh58 rfl ?_
  conv => whnf
  exact end_of [0, 1] (by rfl) (by rfl) (by rfl) (by exact ⟨rfl, rfl⟩)

set_option maxRecDepth 100000 in
theorem c_drop0_u8 (l : List Int) : SpecD S 58 [.ptr 0 0] [gone3, .row .u8 l] (.int .i64 0) [gone3, .row .u8 l] := by
  refine specE ok sh58 rfl ?_
  conv => whnf
  exact end_of [0, 1] (by rfl) (by rfl) (by rfl) (by exact ⟨rfl, rfl⟩)

set_option maxRecDepth 100000 in
theorem c_Drop_u8 (l : List Int) : SpecD S 20 [.ptr 0 0] [cell3 (.own .u8 1 0 l.length .whole), .row .u8 l] (.int .i64 0) [gone3, .row .u8 l] := by
  refine specE ok sh20 rfl ?_
  conv => whnf
  refine call_of [0, 1] (c_drop_u8 l) (by rfl) (by rfl) ?_
  conv => whnf
  exact end_of [0, 1] (by rfl) (by rfl) (by rfl) (by exact ⟨rfl, rfl⟩)

set_option maxRecDepth 100000 in
theorem c_Drop0_u8 (l : List Int) : SpecD S 20 [.ptr 0 0] [gone3, .row .u8 l] (.int .i64 0) [gone3, .row .u8 l] := by
  refine specE ok sh20 rfl ?_
  conv => whnf
  refine call_of [0, 1] (c_drop0_u8 l) (by rfl) (by rfl) ?_
  conv => whnf
  exact end_of [0, 1] (by rfl) (by rfl) (by rfl) (by exact ⟨rfl, rfl⟩)

end Sh
end Go.Proofs.Ytanonfilhgkkcaa
