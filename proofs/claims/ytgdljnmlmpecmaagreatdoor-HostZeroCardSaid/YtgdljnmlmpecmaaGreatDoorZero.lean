/- MADE BY PROGRAM (zerogen.py): what the functions answer that a law of zero receivers reaches. -/
import Derived.Test.YtgdljnmlmpecmaaGreatDoorShadeZ
import Derived.Test.YtgdljnmlmpecmaaGreatDoorSh21
namespace Go.Proofs.YtgdljnmlmpecmaaGreatDoor
open Go
namespace Sh

set_option maxRecDepth 100000 in
theorem z_none_n : SpecD S 13 [.nilp] [] (.bool true) [] := by
  refine specE ok sh13 rfl ?_
  conv => whnf
  exact end_of [] (by rfl) (by rfl) (by rfl) (by exact ⟨rfl, rfl⟩)

set_option maxRecDepth 100000 in
theorem z_none_z : SpecD S 13 [.ptr 0 0] [.cells [.nilp, .cell, .nils]] (.bool true) [.cells [.nilp, .cell, .nils]] := by
  refine specE ok sh13 rfl ?_
  conv => whnf
  exact end_of [0] (by rfl) (by rfl) (by rfl) (by exact ⟨rfl, rfl⟩)

set_option maxRecDepth 100000 in
theorem z_snone_n : SpecD S 24 [.nilp] [] (.bool true) [] := by
  refine specE ok sh24 rfl ?_
  conv => whnf
  exact end_of [] (by rfl) (by rfl) (by rfl) (by exact ⟨rfl, rfl⟩)

set_option maxRecDepth 100000 in
theorem z_snone_z : SpecD S 24 [.ptr 0 0] [.cells [.nils, .nils, .nils, .nils, .nils, .nils, .nils, .nils, .int .i64 0, .int .i64 0, .int .i64 0, .nilp, .nilp, .int .i64 0]] (.bool true) [.cells [.nils, .nils, .nils, .nils, .nils, .nils, .nils, .nils, .int .i64 0, .int .i64 0, .int .i64 0, .nilp, .nilp, .int .i64 0]] := by
  refine specE ok sh24 rfl ?_
  conv => whnf
  exact end_of [0] (by rfl) (by rfl) (by rfl) (by exact ⟨rfl, rfl⟩)

set_option maxRecDepth 100000 in
theorem z_types_n : SpecD S 17 [.nilp] [] (.nilp) [] := by
  refine specE ok sh17 rfl ?_
  conv => whnf
  refine call_of [] (z_snone_n) (by rfl) (by rfl) ?_
  conv => whnf
  exact end_of [] (by rfl) (by rfl) (by rfl) (by exact ⟨rfl, rfl⟩)

set_option maxRecDepth 100000 in
theorem z_types_z : SpecD S 17 [.ptr 0 0] [.cells [.nils, .nils, .nils, .nils, .nils, .nils, .nils, .nils, .int .i64 0, .int .i64 0, .int .i64 0, .nilp, .nilp, .int .i64 0]] (.nilp) [.cells [.nils, .nils, .nils, .nils, .nils, .nils, .nils, .nils, .int .i64 0, .int .i64 0, .int .i64 0, .nilp, .nilp, .int .i64 0]] := by
  refine specE ok sh17 rfl ?_
  conv => whnf
  refine call_of [0] (z_snone_z) (by rfl) (by rfl) ?_
  conv => whnf
  exact end_of [0] (by rfl) (by rfl) (by rfl) (by exact ⟨rfl, rfl⟩)

set_option maxRecDepth 100000 in
theorem z_call_n (n : Int) : SpecD S 4 [.nilp, .int .i64 n, .cell] [] (.tup [.agg [.int .i64 0, .nils, .int .i64 0], .int .i64 7]) [] := by
  refine specE ok sh4 rfl ?_
  conv => whnf
  refine call_of [] (z_none_n) (by rfl) (by rfl) ?_
  conv => whnf
  exact end_of [] (by rfl) (by rfl) (by rfl) (by exact ⟨rfl, rfl⟩)

set_option maxRecDepth 100000 in
theorem z_call_z (n : Int) : SpecD S 4 [.ptr 0 0, .int .i64 n, .cell] [.cells [.nilp, .cell, .nils]] (.tup [.agg [.int .i64 0, .nils, .int .i64 0], .int .i64 7]) [.cells [.nilp, .cell, .nils]] := by
  refine specE ok sh4 rfl ?_
  conv => whnf
  refine call_of [0] (z_none_z) (by rfl) (by rfl) ?_
  conv => whnf
  exact end_of [0] (by rfl) (by rfl) (by rfl) (by exact ⟨rfl, rfl⟩)

set_option maxRecDepth 100000 in
theorem z_new_n : SpecD S 5 [.nilp] [] (.nilp) [] := by
  refine specE ok sh5 rfl ?_
  conv => whnf
  refine call_of [] (z_types_n) (by rfl) (by rfl) ?_
  conv => whnf
  exact end_of [] (by rfl) (by rfl) (by rfl) (by exact ⟨rfl, rfl⟩)

set_option maxRecDepth 100000 in
theorem z_new_z : SpecD S 5 [.ptr 0 0] [.cells [.nils, .nils, .nils, .nils, .nils, .nils, .nils, .nils, .int .i64 0, .int .i64 0, .int .i64 0, .nilp, .nilp, .int .i64 0]] (.nilp) [.cells [.nils, .nils, .nils, .nils, .nils, .nils, .nils, .nils, .int .i64 0, .int .i64 0, .int .i64 0, .nilp, .nilp, .int .i64 0]] := by
  refine specE ok sh5 rfl ?_
  conv => whnf
  refine call_of [0] (z_types_z) (by rfl) (by rfl) ?_
  conv => whnf
  exact end_of [0] (by rfl) (by rfl) (by rfl) (by exact ⟨rfl, rfl⟩)

set_option maxRecDepth 100000 in
theorem z_answers_n (n : Int) : SpecD S 6 [.nilp, .int .i64 n, .nils] [] (.int .i64 7) [] := by
  refine specE ok sh6 rfl ?_
  conv => whnf
  refine call_of [] (z_none_n) (by rfl) (by rfl) ?_
  conv => whnf
  exact end_of [] (by rfl) (by rfl) (by rfl) (by exact ⟨rfl, rfl⟩)

set_option maxRecDepth 100000 in
theorem z_setheld_z : SpecD S 7 [.ptr 0 0, .nils] [.cells [.nilp, .cell, .nils]] (.int .i64 7) [.cells [.nilp, .cell, .nils]] := by
  refine specE ok sh7 rfl ?_
  conv => whnf
  refine call_of [0] (z_none_z) (by rfl) (by rfl) ?_
  conv => whnf
  exact end_of [0] (by rfl) (by rfl) (by rfl) (by exact ⟨rfl, rfl⟩)

set_option maxRecDepth 100000 in
theorem z_left_n (n : Int) : SpecD S 8 [.nilp, .int .i64 n] [] (.int .i64 0) [] := by
  refine specE ok sh8 rfl ?_
  conv => whnf
  refine call_of [] (z_none_n) (by rfl) (by rfl) ?_
  conv => whnf
  exact end_of [] (by rfl) (by rfl) (by rfl) (by exact ⟨rfl, rfl⟩)

set_option maxRecDepth 100000 in
theorem z_held_z : SpecD S 9 [.ptr 0 0] [.cells [.nilp, .cell, .nils]] (.nils) [.cells [.nilp, .cell, .nils]] := by
  refine specE ok sh9 rfl ?_
  conv => whnf
  refine call_of [0] (z_none_z) (by rfl) (by rfl) ?_
  conv => whnf
  exact end_of [0] (by rfl) (by rfl) (by rfl) (by exact ⟨rfl, rfl⟩)

set_option maxRecDepth 100000 in
theorem z_calls_n : SpecD S 10 [.nilp] [] (.nils) [] := by
  refine specE ok sh10 rfl ?_
  conv => whnf
  refine call_of [] (z_none_n) (by rfl) (by rfl) ?_
  conv => whnf
  exact end_of [] (by rfl) (by rfl) (by rfl) (by exact ⟨rfl, rfl⟩)

set_option maxRecDepth 100000 in
theorem z_are_n : SpecD S 11 [.nilp, .cell, .cell] [] (.bool false) [] := by
  refine specE ok sh11 rfl ?_
  conv => whnf
  refine call_of [] (z_types_n) (by rfl) (by rfl) ?_
  conv => whnf
  exact end_of [] (by rfl) (by rfl) (by rfl) (by exact ⟨rfl, rfl⟩)

set_option maxRecDepth 100000 in
theorem z_is_z : SpecD S 12 [.ptr 0 0, .agg [.int .i64 1, .int .u64 0, .int .i64 0, .int .u64 0, .bool false], .agg [.int .i64 1, .bool false, .int .i64 0]] [.cells [.nils, .nils, .nils, .nils, .nils, .nils, .nils, .nils, .int .i64 0, .int .i64 0, .int .i64 0, .nilp, .nilp, .int .i64 0]] (.bool false) [.cells [.nils, .nils, .nils, .nils, .nils, .nils, .nils, .nils, .int .i64 0, .int .i64 0, .int .i64 0, .nilp, .nilp, .int .i64 0]] := by
  refine specE ok sh12 rfl ?_
  conv => whnf
  refine call_of [0] (z_types_z) (by rfl) (by rfl) ?_
  conv => whnf
  exact end_of [0] (by rfl) (by rfl) (by rfl) (by exact ⟨rfl, rfl⟩)

set_option maxRecDepth 100000 in
set_option maxHeartbeats 2000000 in
theorem z_hostZero (n : Int) : SpecD S 3 [.int .i64 n, .cell, .cell] [] (.bool true) [] := by
  refine specE ok sh3 rfl ?_
  conv => whnf
  refine call_of [] (z_call_n n) (by rfl) (by rfl) ?_
  conv => whnf
  try (refine And.intro (by repeat first | exact trivial | refine And.intro (by rfl) ?_) ?_; conv => whnf)
  refine call_of [0] (z_call_z n) (by rfl) (by rfl) ?_
  conv => whnf
  try (refine And.intro (by repeat first | exact trivial | refine And.intro (by rfl) ?_) ?_; conv => whnf)
  refine call_of [] (z_new_n) (by rfl) (by rfl) ?_
  conv => whnf
  try (refine And.intro (by repeat first | exact trivial | refine And.intro (by rfl) ?_) ?_; conv => whnf)
  refine call_of [3] (z_new_z) (by rfl) (by rfl) ?_
  conv => whnf
  try (refine And.intro (by repeat first | exact trivial | refine And.intro (by rfl) ?_) ?_; conv => whnf)
  refine call_of [] (z_answers_n n) (by rfl) (by rfl) ?_
  conv => whnf
  try (refine And.intro (by repeat first | exact trivial | refine And.intro (by rfl) ?_) ?_; conv => whnf)
  refine call_of [0] (z_setheld_z) (by rfl) (by rfl) ?_
  conv => whnf
  try (refine And.intro (by repeat first | exact trivial | refine And.intro (by rfl) ?_) ?_; conv => whnf)
  refine call_of [] (z_left_n n) (by rfl) (by rfl) ?_
  conv => whnf
  try (refine And.intro (by repeat first | exact trivial | refine And.intro (by rfl) ?_) ?_; conv => whnf)
  refine call_of [0] (z_held_z) (by rfl) (by rfl) ?_
  conv => whnf
  try (refine And.intro (by repeat first | exact trivial | refine And.intro (by rfl) ?_) ?_; conv => whnf)
  refine call_of [] (z_calls_n) (by rfl) (by rfl) ?_
  conv => whnf
  try (refine And.intro (by repeat first | exact trivial | refine And.intro (by rfl) ?_) ?_; conv => whnf)
  refine call_of [] (z_are_n) (by rfl) (by rfl) ?_
  conv => whnf
  try (refine And.intro (by repeat first | exact trivial | refine And.intro (by rfl) ?_) ?_; conv => whnf)
  refine call_of [4] (z_is_z) (by rfl) (by rfl) ?_
  conv => whnf
  try (refine And.intro (by repeat first | exact trivial | refine And.intro (by rfl) ?_) ?_; conv => whnf)
  exact end_of [] (by rfl) (by rfl) (by rfl) (by exact ⟨rfl, rfl⟩)

end Sh
end Go.Proofs.YtgdljnmlmpecmaaGreatDoor
