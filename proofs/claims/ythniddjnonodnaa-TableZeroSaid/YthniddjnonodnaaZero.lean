/- MADE BY PROGRAM (zero.py): what the functions answer that the law of zero receivers reaches. -/
import Derived.Test.YthniddjnonodnaaShadeA
import Derived.Test.YthniddjnonodnaaSh21
namespace Go.Proofs.Ythniddjnonodnaa
open Go
namespace Sh

theorem z_none_n : SpecD S 48 [.nilp] [] (.bool true) [] := by
  refine specE ok sh48 rfl ?_
  conv => whnf
  exact end_of [] (by rfl) (by rfl) (by rfl) (by exact ⟨rfl, rfl⟩)

theorem z_none_z : SpecD S 48 [.ptr 0 0] [.cells [.bool false, .bool false, .nils, .int .i64 0, .bool false, .int .i64 0, .bool false, .int .u64 0, .int .u64 0, .bool false]] (.bool true) [.cells [.bool false, .bool false, .nils, .int .i64 0, .bool false, .int .i64 0, .bool false, .int .u64 0, .int .u64 0, .bool false]] := by
  refine specE ok sh48 rfl ?_
  conv => whnf
  exact end_of [0] (by rfl) (by rfl) (by rfl) (by exact ⟨rfl, rfl⟩)

theorem z_gnone_n : SpecD S 71 [.nilp] [] (.bool true) [] := by
  refine specE ok sh71 rfl ?_
  conv => whnf
  exact end_of [] (by rfl) (by rfl) (by rfl) (by exact ⟨rfl, rfl⟩)

theorem z_gnone_z : SpecD S 71 [.ptr 0 0] [.cells [.bool false, .bool false, .nils, .int .i64 0, .bool false, .int .i64 0, .bool false]] (.bool true) [.cells [.bool false, .bool false, .nils, .int .i64 0, .bool false, .int .i64 0, .bool false]] := by
  refine specE ok sh71 rfl ?_
  conv => whnf
  exact end_of [0] (by rfl) (by rfl) (by rfl) (by exact ⟨rfl, rfl⟩)

theorem z_get_n (n : Int) : SpecD S 33 [.nilp, .int .u64 n] [] (.tup [.agg [.int .i64 0, .int .u64 0, .int .i64 0, .int .u64 0, .bool false], .int .i64 7]) [] := by
  refine specE ok sh33 rfl ?_
  conv => whnf
  refine call_of [] (z_none_n) (by rfl) (by rfl) ?_
  conv => whnf
  exact end_of [] (by rfl) (by rfl) (by rfl) (by exact ⟨rfl, rfl⟩)

theorem z_size_z : SpecD S 38 [.ptr 0 0] [.cells [.bool false, .bool false, .nils, .int .i64 0, .bool false, .int .i64 0, .bool false, .int .u64 0, .int .u64 0, .bool false]] (.int .u64 0) [.cells [.bool false, .bool false, .nils, .int .i64 0, .bool false, .int .i64 0, .bool false, .int .u64 0, .int .u64 0, .bool false]] := by
  refine specE ok sh38 rfl ?_
  conv => whnf
  refine call_of [0] (z_none_z) (by rfl) (by rfl) ?_
  conv => whnf
  exact end_of [0] (by rfl) (by rfl) (by rfl) (by exact ⟨rfl, rfl⟩)

theorem z_size_n : SpecD S 38 [.nilp] [] (.int .u64 0) [] := by
  refine specE ok sh38 rfl ?_
  conv => whnf
  refine call_of [] (z_none_n) (by rfl) (by rfl) ?_
  conv => whnf
  exact end_of [] (by rfl) (by rfl) (by rfl) (by exact ⟨rfl, rfl⟩)

theorem z_grow_z (v : Val) : SpecD S 34 [.ptr 0 0, .int .u64 1, .agg (encVal v), .int .u64 9] [.cells [.bool false, .bool false, .nils, .int .i64 0, .bool false, .int .i64 0, .bool false, .int .u64 0, .int .u64 0, .bool false]] (.tup [.int .u64 0, .bool false]) [.cells [.bool false, .bool false, .nils, .int .i64 0, .bool false, .int .i64 0, .bool false, .int .u64 0, .int .u64 0, .bool false]] := by
  refine specE ok sh34 rfl ?_
  conv => whnf
  refine call_of [0] (z_size_z) (by rfl) (by rfl) ?_
  conv => whnf
  refine call_of [0] (z_none_z) (by rfl) (by rfl) ?_
  conv => whnf
  exact end_of [0] (by rfl) (by rfl) (by rfl) (by exact ⟨rfl, rfl⟩)

theorem z_set_z (n : Int) (v : Val) : SpecD S 35 [.ptr 0 0, .int .u64 n, .agg (encVal v)] [.cells [.bool false, .bool false, .nils, .int .i64 0, .bool false, .int .i64 0, .bool false, .int .u64 0, .int .u64 0, .bool false]] (.int .i64 7) [.cells [.bool false, .bool false, .nils, .int .i64 0, .bool false, .int .i64 0, .bool false, .int .u64 0, .int .u64 0, .bool false]] := by
  refine specE ok sh35 rfl ?_
  conv => whnf
  refine call_of [0] (z_none_z) (by rfl) (by rfl) ?_
  conv => whnf
  exact end_of [0] (by rfl) (by rfl) (by rfl) (by exact ⟨rfl, rfl⟩)

theorem z_fill_n (n : Int) (v : Val) : SpecD S 8 [.nilp, .int .u64 n, .agg (encVal v), .int .u64 0] [] (.int .i64 7) [] := by
  refine specE ok sh8 rfl ?_
  conv => whnf
  refine call_of [] (z_none_n) (by rfl) (by rfl) ?_
  conv => whnf
  exact end_of [] (by rfl) (by rfl) (by rfl) (by exact ⟨rfl, rfl⟩)

theorem z_copy_z : SpecD S 13 [.ptr 0 0, .int .u64 0, .nilp, .int .u64 0, .int .u64 0] [.cells [.bool false, .bool false, .nils, .int .i64 0, .bool false, .int .i64 0, .bool false, .int .u64 0, .int .u64 0, .bool false]] (.int .i64 7) [.cells [.bool false, .bool false, .nils, .int .i64 0, .bool false, .int .i64 0, .bool false, .int .u64 0, .int .u64 0, .bool false]] := by
  refine specE ok sh13 rfl ?_
  conv => whnf
  refine call_of [0] (z_none_z) (by rfl) (by rfl) ?_
  conv => whnf
  exact end_of [0] (by rfl) (by rfl) (by rfl) (by exact ⟨rfl, rfl⟩)

theorem z_held_n : SpecD S 53 [.nils] [] (.agg [.bool true, .bool false, .own .value 0 0 0 .whole]) [.row .value []] := by
  refine specE ok sh53 rfl ?_
  conv => whnf
  refine ⟨by unfold fits; decide, ?_⟩
  conv => whnf
  exact end_of [1] (by rfl) (by rfl) (by rfl) (by exact ⟨rfl, rfl⟩)

theorem z_init_n : SpecD S 36 [.nilp, .int .u64 0, .nils, .int .u64 0, .int .u64 0] [] (.int .i64 7) [] := by
  refine specE ok sh36 rfl ?_
  conv => whnf
  refine call_of [] (z_held_n) (by rfl) (by rfl) ?_
  conv => whnf
  refine call_of [] (z_none_n) (by rfl) (by rfl) ?_
  conv => whnf
  exact end_of [] (by rfl) (by rfl) (by rfl) (by exact ⟨rfl, rfl⟩)

theorem z_setrefs_z : SpecD S 37 [.ptr 0 0, .nils] [.cells [.bool false, .bool false, .nils, .int .i64 0, .bool false, .int .i64 0, .bool false, .int .u64 0, .int .u64 0, .bool false]] (.int .i64 7) [.cells [.bool false, .bool false, .nils, .int .i64 0, .bool false, .int .i64 0, .bool false, .int .u64 0, .int .u64 0, .bool false]] := by
  refine specE ok sh37 rfl ?_
  conv => whnf
  refine call_of [0] (z_none_z) (by rfl) (by rfl) ?_
  conv => whnf
  exact end_of [0] (by rfl) (by rfl) (by rfl) (by exact ⟨rfl, rfl⟩)

theorem z_type_z : SpecD S 39 [.ptr 0 0] [.cells [.bool false, .bool false, .nils, .int .i64 0, .bool false, .int .i64 0, .bool false, .int .u64 0, .int .u64 0, .bool false]] (.agg [.int .i64 0, .bool false, .int .i64 0, .bool false, .int .u64 0, .int .u64 0, .bool false]) [.cells [.bool false, .bool false, .nils, .int .i64 0, .bool false, .int .i64 0, .bool false, .int .u64 0, .int .u64 0, .bool false]] := by
  refine specE ok sh39 rfl ?_
  conv => whnf
  refine call_of [0] (z_none_z) (by rfl) (by rfl) ?_
  conv => whnf
  exact end_of [0] (by rfl) (by rfl) (by rfl) (by exact ⟨rfl, rfl⟩)

theorem z_type_n : SpecD S 39 [.nilp] [] (.agg [.int .i64 0, .bool false, .int .i64 0, .bool false, .int .u64 0, .int .u64 0, .bool false]) [] := by
  refine specE ok sh39 rfl ?_
  conv => whnf
  refine call_of [] (z_none_n) (by rfl) (by rfl) ?_
  conv => whnf
  exact end_of [] (by rfl) (by rfl) (by rfl) (by exact ⟨rfl, rfl⟩)

theorem z_limits_n : SpecD S 40 [.nilp] [] (.agg [.bool false, .int .u64 0, .int .u64 0, .bool false]) [] := by
  refine specE ok sh40 rfl ?_
  conv => whnf
  refine call_of [] (z_type_n) (by rfl) (by rfl) ?_
  conv => whnf
  exact end_of [] (by rfl) (by rfl) (by rfl) (by exact ⟨rfl, rfl⟩)

theorem z_refs_z : SpecD S 10 [.ptr 0 0] [.cells [.bool false, .bool false, .nils, .int .i64 0, .bool false, .int .i64 0, .bool false, .int .u64 0, .int .u64 0, .bool false]] (.nils) [.cells [.bool false, .bool false, .nils, .int .i64 0, .bool false, .int .i64 0, .bool false, .int .u64 0, .int .u64 0, .bool false]] := by
  refine specE ok sh10 rfl ?_
  conv => whnf
  refine call_of [0] (z_none_z) (by rfl) (by rfl) ?_
  conv => whnf
  exact end_of [0] (by rfl) (by rfl) (by rfl) (by exact ⟨rfl, rfl⟩)

theorem z_gset_n (v : Val) : SpecD S 41 [.nilp, .agg (encVal v)] [] (.int .i64 7) [] := by
  refine specE ok sh41 rfl ?_
  conv => whnf
  refine call_of [] (z_gnone_n) (by rfl) (by rfl) ?_
  conv => whnf
  exact end_of [] (by rfl) (by rfl) (by rfl) (by exact ⟨rfl, rfl⟩)

theorem z_gget_z : SpecD S 42 [.ptr 0 0] [.cells [.bool false, .bool false, .nils, .int .i64 0, .bool false, .int .i64 0, .bool false]] (.agg [.int .i64 0, .int .u64 0, .int .i64 0, .int .u64 0, .bool false]) [.cells [.bool false, .bool false, .nils, .int .i64 0, .bool false, .int .i64 0, .bool false]] := by
  refine specE ok sh42 rfl ?_
  conv => whnf
  refine call_of [0] (z_gnone_z) (by rfl) (by rfl) ?_
  conv => whnf
  exact end_of [0] (by rfl) (by rfl) (by rfl) (by exact ⟨rfl, rfl⟩)

theorem z_gtype_n : SpecD S 43 [.nilp] [] (.agg [.int .i64 0, .bool false, .int .i64 0, .bool false]) [] := by
  refine specE ok sh43 rfl ?_
  conv => whnf
  refine call_of [] (z_gnone_n) (by rfl) (by rfl) ?_
  conv => whnf
  exact end_of [] (by rfl) (by rfl) (by rfl) (by exact ⟨rfl, rfl⟩)

theorem z_grefs_z : SpecD S 44 [.ptr 0 0] [.cells [.bool false, .bool false, .nils, .int .i64 0, .bool false, .int .i64 0, .bool false]] (.nils) [.cells [.bool false, .bool false, .nils, .int .i64 0, .bool false, .int .i64 0, .bool false]] := by
  refine specE ok sh44 rfl ?_
  conv => whnf
  refine call_of [0] (z_gnone_z) (by rfl) (by rfl) ?_
  conv => whnf
  exact end_of [0] (by rfl) (by rfl) (by rfl) (by exact ⟨rfl, rfl⟩)

theorem z_gsetrefs_n : SpecD S 45 [.nilp, .nils] [] (.int .i64 7) [] := by
  refine specE ok sh45 rfl ?_
  conv => whnf
  refine call_of [] (z_gnone_n) (by rfl) (by rfl) ?_
  conv => whnf
  exact end_of [] (by rfl) (by rfl) (by rfl) (by exact ⟨rfl, rfl⟩)

theorem z_edrop_n : SpecD S 29 [.nilp] [] (.int .i64 7) [] := by
  refine specE ok sh29 rfl ?_
  conv => whnf
  exact end_of [] (by rfl) (by rfl) (by rfl) (by exact ⟨rfl, rfl⟩)

theorem z_ddrop_n : SpecD S 20 [.nilp] [] (.int .i64 7) [] := by
  refine specE ok sh20 rfl ?_
  conv => whnf
  exact end_of [] (by rfl) (by rfl) (by rfl) (by exact ⟨rfl, rfl⟩)

theorem z_drop_z : SpecD S 61 [.ptr 0 0] [.cells [.bool false, .bool false, .nils]] (.int .i64 7) [.cells [.bool false, .bool false, .nils]] := by
  refine specE ok sh61 rfl ?_
  conv => whnf
  exact end_of [0] (by rfl) (by rfl) (by rfl) (by exact ⟨rfl, rfl⟩)

theorem z_edrop_z : SpecD S 29 [.ptr 0 0] [.cells [.bool false, .bool false, .nils]] (.int .i64 7) [.cells [.bool false, .bool false, .nils]] := by
  refine specE ok sh29 rfl ?_
  conv => whnf
  refine call_of [0] (z_drop_z) (by rfl) (by rfl) ?_
  conv => whnf
  exact end_of [0] (by rfl) (by rfl) (by rfl) (by exact ⟨rfl, rfl⟩)

theorem z_esetrefs_z : SpecD S 27 [.ptr 0 0, .nils] [.cells [.bool false, .bool false, .nils]] (.int .i64 7) [.cells [.bool false, .bool false, .nils]] := by
  refine specE ok sh27 rfl ?_
  conv => whnf
  exact end_of [0] (by rfl) (by rfl) (by rfl) (by exact ⟨rfl, rfl⟩)

theorem z_items_n : SpecD S 22 [.nilp] [] (.nils) [] := by
  refine specE ok sh22 rfl ?_
  conv => whnf
  exact end_of [] (by rfl) (by rfl) (by rfl) (by exact ⟨rfl, rfl⟩)

theorem z_bytes_n : SpecD S 17 [.nilp] [] (.nils) [] := by
  refine specE ok sh17 rfl ?_
  conv => whnf
  exact end_of [] (by rfl) (by rfl) (by rfl) (by exact ⟨rfl, rfl⟩)

theorem z_dlen_n : SpecD S 18 [.nilp] [] (.int .u64 0) [] := by
  refine specE ok sh18 rfl ?_
  conv => whnf
  refine call_of [] (z_bytes_n) (by rfl) (by rfl) ?_
  conv => whnf
  exact end_of [] (by rfl) (by rfl) (by rfl) (by exact ⟨rfl, rfl⟩)

theorem z_edropped_n : SpecD S 24 [.nilp] [] (.bool false) [] := by
  refine specE ok sh24 rfl ?_
  conv => whnf
  exact end_of [] (by rfl) (by rfl) (by rfl) (by exact ⟨rfl, rfl⟩)

theorem z_ddropped_n : SpecD S 19 [.nilp] [] (.bool false) [] := by
  refine specE ok sh19 rfl ?_
  conv => whnf
  exact end_of [] (by rfl) (by rfl) (by rfl) (by exact ⟨rfl, rfl⟩)

set_option maxRecDepth 100000 in
set_option maxHeartbeats 2000000 in
theorem z_tableZero (n : Int) (v : Val) : SpecD S 6 [.int .u64 n, .agg (encVal v)] [] (.bool true) [] := by
  refine specE ok sh6 rfl ?_
  conv => whnf
  refine call_of [] (z_get_n n) (by rfl) (by rfl) ?_
  conv => whnf
  try (refine And.intro (by repeat first | exact trivial | refine And.intro (by rfl) ?_) ?_; conv => whnf)
  refine call_of [1] (z_grow_z v) (by rfl) (by rfl) ?_
  conv => whnf
  try (refine And.intro (by repeat first | exact trivial | refine And.intro (by rfl) ?_) ?_; conv => whnf)
  refine call_of [1] (z_set_z n v) (by rfl) (by rfl) ?_
  conv => whnf
  try (refine And.intro (by repeat first | exact trivial | refine And.intro (by rfl) ?_) ?_; conv => whnf)
  refine call_of [] (z_fill_n n v) (by rfl) (by rfl) ?_
  conv => whnf
  try (refine And.intro (by repeat first | exact trivial | refine And.intro (by rfl) ?_) ?_; conv => whnf)
  refine call_of [1] (z_copy_z) (by rfl) (by rfl) ?_
  conv => whnf
  try (refine And.intro (by repeat first | exact trivial | refine And.intro (by rfl) ?_) ?_; conv => whnf)
  refine call_of [] (z_init_n) (by rfl) (by rfl) ?_
  conv => whnf
  try (refine And.intro (by repeat first | exact trivial | refine And.intro (by rfl) ?_) ?_; conv => whnf)
  refine call_of [1] (z_setrefs_z) (by rfl) (by rfl) ?_
  conv => whnf
  try (refine And.intro (by repeat first | exact trivial | refine And.intro (by rfl) ?_) ?_; conv => whnf)
  refine call_of [] (z_size_n) (by rfl) (by rfl) ?_
  conv => whnf
  try (refine And.intro (by repeat first | exact trivial | refine And.intro (by rfl) ?_) ?_; conv => whnf)
  refine call_of [1] (z_type_z) (by rfl) (by rfl) ?_
  conv => whnf
  try (refine And.intro (by repeat first | exact trivial | refine And.intro (by rfl) ?_) ?_; conv => whnf)
  refine call_of [] (z_limits_n) (by rfl) (by rfl) ?_
  conv => whnf
  try (refine And.intro (by repeat first | exact trivial | refine And.intro (by rfl) ?_) ?_; conv => whnf)
  refine call_of [1] (z_refs_z) (by rfl) (by rfl) ?_
  conv => whnf
  try (refine And.intro (by repeat first | exact trivial | refine And.intro (by rfl) ?_) ?_; conv => whnf)
  refine call_of [] (z_gset_n v) (by rfl) (by rfl) ?_
  conv => whnf
  try (refine And.intro (by repeat first | exact trivial | refine And.intro (by rfl) ?_) ?_; conv => whnf)
  refine call_of [2] (z_gget_z) (by rfl) (by rfl) ?_
  conv => whnf
  try (refine And.intro (by repeat first | exact trivial | refine And.intro (by rfl) ?_) ?_; conv => whnf)
  refine call_of [] (z_gtype_n) (by rfl) (by rfl) ?_
  conv => whnf
  try (refine And.intro (by repeat first | exact trivial | refine And.intro (by rfl) ?_) ?_; conv => whnf)
  refine call_of [2] (z_grefs_z) (by rfl) (by rfl) ?_
  conv => whnf
  try (refine And.intro (by repeat first | exact trivial | refine And.intro (by rfl) ?_) ?_; conv => whnf)
  refine call_of [] (z_gsetrefs_n) (by rfl) (by rfl) ?_
  conv => whnf
  try (refine And.intro (by repeat first | exact trivial | refine And.intro (by rfl) ?_) ?_; conv => whnf)
  refine call_of [] (z_edrop_n) (by rfl) (by rfl) ?_
  conv => whnf
  try (refine And.intro (by repeat first | exact trivial | refine And.intro (by rfl) ?_) ?_; conv => whnf)
  refine call_of [] (z_ddrop_n) (by rfl) (by rfl) ?_
  conv => whnf
  try (refine And.intro (by repeat first | exact trivial | refine And.intro (by rfl) ?_) ?_; conv => whnf)
  refine call_of [3] (z_edrop_z) (by rfl) (by rfl) ?_
  conv => whnf
  try (refine And.intro (by repeat first | exact trivial | refine And.intro (by rfl) ?_) ?_; conv => whnf)
  refine call_of [3] (z_esetrefs_z) (by rfl) (by rfl) ?_
  conv => whnf
  try (refine And.intro (by repeat first | exact trivial | refine And.intro (by rfl) ?_) ?_; conv => whnf)
  refine call_of [] (z_items_n) (by rfl) (by rfl) ?_
  conv => whnf
  try (refine And.intro (by repeat first | exact trivial | refine And.intro (by rfl) ?_) ?_; conv => whnf)
  refine call_of [] (z_dlen_n) (by rfl) (by rfl) ?_
  conv => whnf
  try (refine And.intro (by repeat first | exact trivial | refine And.intro (by rfl) ?_) ?_; conv => whnf)
  refine call_of [] (z_edropped_n) (by rfl) (by rfl) ?_
  conv => whnf
  try (refine And.intro (by repeat first | exact trivial | refine And.intro (by rfl) ?_) ?_; conv => whnf)
  refine call_of [] (z_ddropped_n) (by rfl) (by rfl) ?_
  conv => whnf
  try (refine And.intro (by repeat first | exact trivial | refine And.intro (by rfl) ?_) ?_; conv => whnf)
  exact end_of [] (by rfl) (by rfl) (by rfl) (by exact ⟨rfl, rfl⟩)

end Sh
end Go.Proofs.Ythniddjnonodnaa
