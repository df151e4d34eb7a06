/- MADE BY PROGRAM (zerogen.py): what the functions answer that a law of zero receivers reaches. -/
import Derived.Test.YtagihcapdcojiaaDoorShadeZ
import Derived.Test.YtagihcapdcojiaaDoorSh21
namespace Go.Proofs.YtagihcapdcojiaaDoor
open Go
namespace Sh

set_option maxRecDepth 100000 in
theorem z_none_n : SpecD S 34 [.nilp] [] (.bool true) [] := by
  refine specE ok sh34 rfl ?_
  conv => whnf
  exact end_of [] (by rfl) (by rfl) (by rfl) (by exact ⟨rfl, rfl⟩)

set_option maxRecDepth 100000 in
theorem z_none_z : SpecD S 34 [.ptr 0 0] [.cells [.bool false, .nils, .nils, .nils, .nils, .nils, .nils]] (.bool true) [.cells [.bool false, .nils, .nils, .nils, .nils, .nils, .nils]] := by
  refine specE ok sh34 rfl ?_
  conv => whnf
  exact end_of [0] (by rfl) (by rfl) (by rfl) (by exact ⟨rfl, rfl⟩)

set_option maxRecDepth 100000 in
theorem z_shut_n : SpecD S 31 [.nilp] [] (.int .i64 7) [] := by
  refine specE ok sh31 rfl ?_
  conv => whnf
  refine call_of [] (z_none_n) (by rfl) (by rfl) ?_
  conv => whnf
  exact end_of [] (by rfl) (by rfl) (by rfl) (by exact ⟨rfl, rfl⟩)

set_option maxRecDepth 100000 in
theorem z_shut_z : SpecD S 31 [.ptr 0 0] [.cells [.bool false, .nils, .nils, .nils, .nils, .nils, .nils]] (.int .i64 7) [.cells [.bool false, .nils, .nils, .nils, .nils, .nils, .nils]] := by
  refine specE ok sh31 rfl ?_
  conv => whnf
  refine call_of [0] (z_none_z) (by rfl) (by rfl) ?_
  conv => whnf
  exact end_of [0] (by rfl) (by rfl) (by rfl) (by exact ⟨rfl, rfl⟩)

set_option maxRecDepth 100000 in
theorem z_pop_n : SpecD S 21 [.nilp] [] (.tup [.agg [.int .i64 0, .bool false, .int .i64 0], .int .i64 7]) [] := by
  refine specE ok sh21 rfl ?_
  conv => whnf
  refine call_of [] (z_shut_n) (by rfl) (by rfl) ?_
  conv => whnf
  exact end_of [] (by rfl) (by rfl) (by rfl) (by exact ⟨rfl, rfl⟩)

set_option maxRecDepth 100000 in
theorem z_pop_z : SpecD S 21 [.ptr 0 0] [.cells [.bool false, .nils, .nils, .nils, .nils, .nils, .nils]] (.tup [.agg [.int .i64 0, .bool false, .int .i64 0], .int .i64 7]) [.cells [.bool false, .nils, .nils, .nils, .nils, .nils, .nils]] := by
  refine specE ok sh21 rfl ?_
  conv => whnf
  refine call_of [0] (z_shut_z) (by rfl) (by rfl) ?_
  conv => whnf
  exact end_of [0] (by rfl) (by rfl) (by rfl) (by exact ⟨rfl, rfl⟩)

set_option maxRecDepth 100000 in
theorem z_poptype_z (v : El_vt) : SpecD S 22 [.ptr 0 0, .agg (enc_vt v)] [.cells [.bool false, .nils, .nils, .nils, .nils, .nils, .nils]] (.tup [.agg [.int .i64 0, .bool false, .int .i64 0], .int .i64 7]) [.cells [.bool false, .nils, .nils, .nils, .nils, .nils, .nils]] := by
  refine specE ok sh22 rfl ?_
  conv => whnf
  refine call_of [0] (z_none_z) (by rfl) (by rfl) ?_
  conv => whnf
  refine call_of [0] (z_pop_z) (by rfl) (by rfl) ?_
  conv => whnf
  exact end_of [0] (by rfl) (by rfl) (by rfl) (by exact ⟨rfl, rfl⟩)

set_option maxRecDepth 100000 in
theorem z_label_n (n : Int) : SpecD S 23 [.nilp, .int .u32 n] [] (.tup [.nils, .int .i64 7]) [] := by
  refine specE ok sh23 rfl ?_
  conv => whnf
  refine call_of [] (z_none_n) (by rfl) (by rfl) ?_
  conv => whnf
  exact end_of [] (by rfl) (by rfl) (by rfl) (by exact ⟨rfl, rfl⟩)

set_option maxRecDepth 100000 in
theorem z_local_z (n : Int) : SpecD S 42 [.ptr 0 0, .int .u32 n] [.cells [.bool false, .nils, .nils, .nils, .nils, .nils, .nils]] (.tup [.agg [.int .i64 0, .bool false, .int .i64 0], .int .i64 7]) [.cells [.bool false, .nils, .nils, .nils, .nils, .nils, .nils]] := by
  refine specE ok sh42 rfl ?_
  conv => whnf
  refine call_of [0] (z_none_z) (by rfl) (by rfl) ?_
  conv => whnf
  exact end_of [0] (by rfl) (by rfl) (by rfl) (by exact ⟨rfl, rfl⟩)

set_option maxRecDepth 100000 in
theorem z_get_z (n : Int) : SpecD S 17 [.ptr 0 0, .int .u32 n] [.cells [.bool false, .nils, .nils, .nils, .nils, .nils, .nils]] (.tup [.agg [.int .i64 0, .bool false, .int .i64 0], .int .i64 7]) [.cells [.bool false, .nils, .nils, .nils, .nils, .nils, .nils]] := by
  refine specE ok sh17 rfl ?_
  conv => whnf
  refine call_of [0] (z_local_z n) (by rfl) (by rfl) ?_
  conv => whnf
  exact end_of [0] (by rfl) (by rfl) (by rfl) (by exact ⟨rfl, rfl⟩)

set_option maxRecDepth 100000 in
theorem z_leave_z : SpecD S 13 [.ptr 0 0] [.cells [.bool false, .nils, .nils, .nils, .nils, .nils, .nils]] (.tup [.int .i64 0, .nils, .nils, .int .i64 7]) [.cells [.bool false, .nils, .nils, .nils, .nils, .nils, .nils]] := by
  refine specE ok sh13 rfl ?_
  conv => whnf
  refine call_of [0] (z_shut_z) (by rfl) (by rfl) ?_
  conv => whnf
  exact end_of [0] (by rfl) (by rfl) (by rfl) (by exact ⟨rfl, rfl⟩)

set_option maxRecDepth 100000 in
theorem z_last_n : SpecD S 24 [.nilp] [] (.tup [.int .i64 0, .nils, .nils, .int .i64 7]) [] := by
  refine specE ok sh24 rfl ?_
  conv => whnf
  refine call_of [] (z_shut_n) (by rfl) (by rfl) ?_
  conv => whnf
  exact end_of [] (by rfl) (by rfl) (by rfl) (by exact ⟨rfl, rfl⟩)

set_option maxRecDepth 100000 in
theorem z_pushes_n (x : El_vt) : SpecD S 16 [.nilp, .own .vt 0 0 1 .full] [.row .vt [x]] (.int .i64 7) [.row .vt [x]] := by
  refine specE ok sh16 rfl ?_
  conv => whnf
  refine call_of [] (z_shut_n) (by rfl) (by rfl) ?_
  conv => whnf
  exact end_of [0] (by rfl) (by rfl) (by rfl) (by exact ⟨rfl, rfl⟩)

set_option maxRecDepth 100000 in
theorem z_push_n (v : El_vt) : SpecD S 25 [.nilp, .agg (enc_vt v)] [] (.int .i64 7) [] := by
  refine specE ok sh25 rfl ?_
  conv => whnf
  refine call_of [1] (z_pushes_n v) (by rfl) (by rfl) ?_
  conv => whnf
  exact end_of [] (by rfl) (by rfl) (by rfl) (by exact ⟨rfl, rfl⟩)

set_option maxRecDepth 100000 in
theorem z_unreach_z : SpecD S 7 [.ptr 0 0] [.cells [.bool false, .nils, .nils, .nils, .nils, .nils, .nils]] (.int .i64 7) [.cells [.bool false, .nils, .nils, .nils, .nils, .nils, .nils]] := by
  refine specE ok sh7 rfl ?_
  conv => whnf
  refine call_of [0] (z_shut_z) (by rfl) (by rfl) ?_
  conv => whnf
  exact end_of [0] (by rfl) (by rfl) (by rfl) (by exact ⟨rfl, rfl⟩)

set_option maxRecDepth 100000 in
theorem z_pops_z : SpecD S 10 [.ptr 0 0, .nils] [.cells [.bool false, .nils, .nils, .nils, .nils, .nils, .nils]] (.int .i64 7) [.cells [.bool false, .nils, .nils, .nils, .nils, .nils, .nils]] := by
  refine specE ok sh10 rfl ?_
  conv => whnf
  refine call_of [0] (z_shut_z) (by rfl) (by rfl) ?_
  conv => whnf
  exact end_of [0] (by rfl) (by rfl) (by rfl) (by exact ⟨rfl, rfl⟩)

set_option maxRecDepth 100000 in
theorem z_pops_n : SpecD S 10 [.nilp, .nils] [] (.int .i64 7) [] := by
  refine specE ok sh10 rfl ?_
  conv => whnf
  refine call_of [] (z_shut_n) (by rfl) (by rfl) ?_
  conv => whnf
  exact end_of [] (by rfl) (by rfl) (by rfl) (by exact ⟨rfl, rfl⟩)

set_option maxRecDepth 100000 in
theorem z_enter_z : SpecD S 12 [.ptr 0 0, .int .i64 2, .nils, .nils] [.cells [.bool false, .nils, .nils, .nils, .nils, .nils, .nils]] (.int .i64 7) [.cells [.bool false, .nils, .nils, .nils, .nils, .nils, .nils]] := by
  refine specE ok sh12 rfl ?_
  conv => whnf
  refine call_of [0] (z_pops_z) (by rfl) (by rfl) ?_
  conv => whnf
  exact end_of [0] (by rfl) (by rfl) (by rfl) (by exact ⟨rfl, rfl⟩)

set_option maxRecDepth 100000 in
theorem z_swap_n : SpecD S 26 [.nilp, .nils, .nils] [] (.int .i64 7) [] := by
  refine specE ok sh26 rfl ?_
  conv => whnf
  refine call_of [] (z_pops_n) (by rfl) (by rfl) ?_
  conv => whnf
  exact end_of [] (by rfl) (by rfl) (by rfl) (by exact ⟨rfl, rfl⟩)

set_option maxRecDepth 100000 in
theorem z_operands_n : SpecD S 19 [.nilp] [] (.nils) [] := by
  refine specE ok sh19 rfl ?_
  conv => whnf
  refine call_of [] (z_none_n) (by rfl) (by rfl) ?_
  conv => whnf
  exact end_of [] (by rfl) (by rfl) (by rfl) (by exact ⟨rfl, rfl⟩)

set_option maxRecDepth 100000 in
theorem z_depth_z : SpecD S 15 [.ptr 0 0] [.cells [.bool false, .nils, .nils, .nils, .nils, .nils, .nils]] (.int .i64 0) [.cells [.bool false, .nils, .nils, .nils, .nils, .nils, .nils]] := by
  refine specE ok sh15 rfl ?_
  conv => whnf
  refine call_of [0] (z_none_z) (by rfl) (by rfl) ?_
  conv => whnf
  exact end_of [0] (by rfl) (by rfl) (by rfl) (by exact ⟨rfl, rfl⟩)

set_option maxRecDepth 100000 in
theorem z_height_n : SpecD S 8 [.nilp] [] (.int .i64 0) [] := by
  refine specE ok sh8 rfl ?_
  conv => whnf
  refine call_of [] (z_none_n) (by rfl) (by rfl) ?_
  conv => whnf
  exact end_of [] (by rfl) (by rfl) (by rfl) (by exact ⟨rfl, rfl⟩)

set_option maxRecDepth 100000 in
theorem z_results_z : SpecD S 27 [.ptr 0 0] [.cells [.bool false, .nils, .nils, .nils, .nils, .nils, .nils]] (.nils) [.cells [.bool false, .nils, .nils, .nils, .nils, .nils, .nils]] := by
  refine specE ok sh27 rfl ?_
  conv => whnf
  refine call_of [0] (z_none_z) (by rfl) (by rfl) ?_
  conv => whnf
  exact end_of [0] (by rfl) (by rfl) (by rfl) (by exact ⟨rfl, rfl⟩)

set_option maxRecDepth 100000 in
theorem z_done_n : SpecD S 28 [.nilp] [] (.bool false) [] := by
  refine specE ok sh28 rfl ?_
  conv => whnf
  refine call_of [] (z_none_n) (by rfl) (by rfl) ?_
  conv => whnf
  exact end_of [] (by rfl) (by rfl) (by rfl) (by exact ⟨rfl, rfl⟩)

set_option maxRecDepth 100000 in
theorem z_reached_z : SpecD S 9 [.ptr 0 0] [.cells [.bool false, .nils, .nils, .nils, .nils, .nils, .nils]] (.bool false) [.cells [.bool false, .nils, .nils, .nils, .nils, .nils, .nils]] := by
  refine specE ok sh9 rfl ?_
  conv => whnf
  refine call_of [0] (z_none_z) (by rfl) (by rfl) ?_
  conv => whnf
  exact end_of [0] (by rfl) (by rfl) (by rfl) (by exact ⟨rfl, rfl⟩)

set_option maxRecDepth 100000 in
set_option maxHeartbeats 2000000 in
theorem z_stackZero (v : El_vt) (n : Int) : SpecD S 5 [.agg (enc_vt v), .int .u32 n] [] (.bool true) [] := by
  refine specE ok sh5 rfl ?_
  conv => whnf
  refine call_of [] (z_pop_n) (by rfl) (by rfl) ?_
  conv => whnf
  try (refine And.intro (by repeat first | exact trivial | refine And.intro (by rfl) ?_) ?_; conv => whnf)
  refine call_of [1] (z_poptype_z v) (by rfl) (by rfl) ?_
  conv => whnf
  try (refine And.intro (by repeat first | exact trivial | refine And.intro (by rfl) ?_) ?_; conv => whnf)
  refine call_of [] (z_label_n n) (by rfl) (by rfl) ?_
  conv => whnf
  try (refine And.intro (by repeat first | exact trivial | refine And.intro (by rfl) ?_) ?_; conv => whnf)
  refine call_of [1] (z_get_z n) (by rfl) (by rfl) ?_
  conv => whnf
  try (refine And.intro (by repeat first | exact trivial | refine And.intro (by rfl) ?_) ?_; conv => whnf)
  refine call_of [1] (z_leave_z) (by rfl) (by rfl) ?_
  conv => whnf
  try (refine And.intro (by repeat first | exact trivial | refine And.intro (by rfl) ?_) ?_; conv => whnf)
  refine call_of [] (z_last_n) (by rfl) (by rfl) ?_
  conv => whnf
  try (refine And.intro (by repeat first | exact trivial | refine And.intro (by rfl) ?_) ?_; conv => whnf)
  refine call_of [] (z_push_n v) (by rfl) (by rfl) ?_
  conv => whnf
  try (refine And.intro (by repeat first | exact trivial | refine And.intro (by rfl) ?_) ?_; conv => whnf)
  refine call_of [1] (z_unreach_z) (by rfl) (by rfl) ?_
  conv => whnf
  try (refine And.intro (by repeat first | exact trivial | refine And.intro (by rfl) ?_) ?_; conv => whnf)
  refine call_of [1] (z_enter_z) (by rfl) (by rfl) ?_
  conv => whnf
  try (refine And.intro (by repeat first | exact trivial | refine And.intro (by rfl) ?_) ?_; conv => whnf)
  refine call_of [] (z_swap_n) (by rfl) (by rfl) ?_
  conv => whnf
  try (refine And.intro (by repeat first | exact trivial | refine And.intro (by rfl) ?_) ?_; conv => whnf)
  refine call_of [] (z_operands_n) (by rfl) (by rfl) ?_
  conv => whnf
  try (refine And.intro (by repeat first | exact trivial | refine And.intro (by rfl) ?_) ?_; conv => whnf)
  refine call_of [1] (z_depth_z) (by rfl) (by rfl) ?_
  conv => whnf
  try (refine And.intro (by repeat first | exact trivial | refine And.intro (by rfl) ?_) ?_; conv => whnf)
  refine call_of [] (z_height_n) (by rfl) (by rfl) ?_
  conv => whnf
  try (refine And.intro (by repeat first | exact trivial | refine And.intro (by rfl) ?_) ?_; conv => whnf)
  refine call_of [1] (z_results_z) (by rfl) (by rfl) ?_
  conv => whnf
  try (refine And.intro (by repeat first | exact trivial | refine And.intro (by rfl) ?_) ?_; conv => whnf)
  refine call_of [] (z_done_n) (by rfl) (by rfl) ?_
  conv => whnf
  try (refine And.intro (by repeat first | exact trivial | refine And.intro (by rfl) ?_) ?_; conv => whnf)
  refine call_of [1] (z_reached_z) (by rfl) (by rfl) ?_
  conv => whnf
  try (refine And.intro (by repeat first | exact trivial | refine And.intro (by rfl) ?_) ?_; conv => whnf)
  exact end_of [] (by rfl) (by rfl) (by rfl) (by exact ⟨rfl, rfl⟩)

end Sh
end Go.Proofs.YtagihcapdcojiaaDoor
