/- MADE BY PROGRAM (skgen.py): copies of lists, frozen or owned. -/
import Derived.Test.YtlnloekadohddaaDoorShadeA
import Derived.Test.YtlnloekadohddaaDoorSh21
namespace Go.Proofs.YtlnloekadohddaaDoor
open Go
namespace Sh

theorem wrap_i64 {n : Int} (h0 : -9223372036854775808 ≤ n) (h1 : n ≤ 9223372036854775807) : IntKind.i64.wrap n = n := IntWalk.i64_in _ ⟨h0, h1⟩
theorem drop_take {α : Type} (l : List α) : (l.drop 0).take l.length = l := by simp

theorem cp_vt (l : List (ElT .vt)) (z : ElT .vt) : (List.replicate l.length z).take 0 ++ l.take l.length ++ (List.replicate l.length z).drop (0 + min l.length l.length) = l := by simp

set_option maxRecDepth 100000 in
theorem c_cpI_vt (l : List (ElT .vt)) (hl : l.length ≤ 1048576) : SpecD S 30 [.imm .vt l] [] (.imm .vt l) [] := by
  refine specE ok sh30 rfl ?_
  conv => whnf
  refine ⟨by omega, rfl, ⟨by unfold maxLen; omega, by simp [S]; omega⟩, ?_⟩
  conv => whnf
  refine ⟨rfl, by simp, ?_⟩
  rw [Int.toNat_natCast, cp_vt]
  conv => whnf
  refine endL_of [] [0] (by rfl) (by rfl) (by rfl) trivial ⟨rfl, by simp⟩ ⟨?_, rfl⟩
  show (AV.imm .vt ((l.drop 0).take l.length) : V) = _
  rw [drop_take]

set_option maxRecDepth 100000 in
theorem c_cpO_vt (l : List (ElT .vt)) (hl : l.length ≤ 1048576) : SpecD S 30 [.imm .vt l] [] (.own .vt 0 0 l.length .whole) [.row .vt l] := by
  refine specE ok sh30 rfl ?_
  conv => whnf
  refine ⟨by omega, rfl, ⟨by unfold maxLen; omega, by simp [S]; omega⟩, ?_⟩
  conv => whnf
  refine ⟨rfl, by simp, ?_⟩
  rw [Int.toNat_natCast, cp_vt]
  conv => whnf
  exact end_of [0] (by rfl) (by rfl) (by rfl) (by exact ⟨rfl, rfl⟩)

theorem cp_bool (l : List (ElT .bool)) (z : ElT .bool) : (List.replicate l.length z).take 0 ++ l.take l.length ++ (List.replicate l.length z).drop (0 + min l.length l.length) = l := by simp

set_option maxRecDepth 100000 in
theorem c_cpI_bool (l : List (ElT .bool)) (hl : l.length ≤ 4000000) : SpecD S 31 [.imm .bool l] [] (.imm .bool l) [] := by
  refine specE ok sh31 rfl ?_
  conv => whnf
  refine ⟨by omega, rfl, ⟨by unfold maxLen; omega, by simp [S]; omega⟩, ?_⟩
  conv => whnf
  refine ⟨rfl, by simp, ?_⟩
  rw [Int.toNat_natCast, cp_bool]
  conv => whnf
  refine endL_of [] [0] (by rfl) (by rfl) (by rfl) trivial ⟨rfl, by simp⟩ ⟨?_, rfl⟩
  show (AV.imm .bool ((l.drop 0).take l.length) : V) = _
  rw [drop_take]

set_option maxRecDepth 100000 in
theorem c_cpO_bool (l : List (ElT .bool)) (hl : l.length ≤ 4000000) : SpecD S 31 [.imm .bool l] [] (.own .bool 0 0 l.length .whole) [.row .bool l] := by
  refine specE ok sh31 rfl ?_
  conv => whnf
  refine ⟨by omega, rfl, ⟨by unfold maxLen; omega, by simp [S]; omega⟩, ?_⟩
  conv => whnf
  refine ⟨rfl, by simp, ?_⟩
  rw [Int.toNat_natCast, cp_bool]
  conv => whnf
  exact end_of [0] (by rfl) (by rfl) (by rfl) (by exact ⟨rfl, rfl⟩)

theorem cp_int (l : List (ElT .int)) (z : ElT .int) : (List.replicate l.length z).take 0 ++ l.take l.length ++ (List.replicate l.length z).drop (0 + min l.length l.length) = l := by simp

set_option maxRecDepth 100000 in
theorem c_cpI_int (l : List (ElT .int)) (hl : l.length ≤ 1048576) : SpecD S 43 [.imm .int l] [] (.imm .int l) [] := by
  refine specE ok sh43 rfl ?_
  conv => whnf
  refine ⟨by omega, rfl, ⟨by unfold maxLen; omega, by simp [S]; omega⟩, ?_⟩
  conv => whnf
  refine ⟨rfl, by simp, ?_⟩
  rw [Int.toNat_natCast, cp_int]
  conv => whnf
  refine endL_of [] [0] (by rfl) (by rfl) (by rfl) trivial ⟨rfl, by simp⟩ ⟨?_, rfl⟩
  show (AV.imm .int ((l.drop 0).take l.length) : V) = _
  rw [drop_take]

set_option maxRecDepth 100000 in
theorem c_cpO_int (l : List (ElT .int)) (hl : l.length ≤ 1048576) : SpecD S 43 [.imm .int l] [] (.own .int 0 0 l.length .whole) [.row .int l] := by
  refine specE ok sh43 rfl ?_
  conv => whnf
  refine ⟨by omega, rfl, ⟨by unfold maxLen; omega, by simp [S]; omega⟩, ?_⟩
  conv => whnf
  refine ⟨rfl, by simp, ?_⟩
  rw [Int.toNat_natCast, cp_int]
  conv => whnf
  exact end_of [0] (by rfl) (by rfl) (by rfl) (by exact ⟨rfl, rfl⟩)

theorem cp_fld (l : List (ElT .fld)) (z : ElT .fld) : (List.replicate l.length z).take 0 ++ l.take l.length ++ (List.replicate l.length z).drop (0 + min l.length l.length) = l := by simp

set_option maxRecDepth 100000 in
theorem c_cpI_fld (l : List (ElT .fld)) (hl : l.length ≤ 1048576) : SpecD S 44 [.imm .fld l] [] (.imm .fld l) [] := by
  refine specE ok sh44 rfl ?_
  conv => whnf
  refine ⟨by omega, rfl, ⟨by unfold maxLen; omega, by simp [S]; omega⟩, ?_⟩
  conv => whnf
  refine ⟨rfl, by simp, ?_⟩
  rw [Int.toNat_natCast, cp_fld]
  conv => whnf
  refine endL_of [] [0] (by rfl) (by rfl) (by rfl) trivial ⟨rfl, by simp⟩ ⟨?_, rfl⟩
  show (AV.imm .fld ((l.drop 0).take l.length) : V) = _
  rw [drop_take]

set_option maxRecDepth 100000 in
theorem c_cpO_fld (l : List (ElT .fld)) (hl : l.length ≤ 1048576) : SpecD S 44 [.imm .fld l] [] (.own .fld 0 0 l.length .whole) [.row .fld l] := by
  refine specE ok sh44 rfl ?_
  conv => whnf
  refine ⟨by omega, rfl, ⟨by unfold maxLen; omega, by simp [S]; omega⟩, ?_⟩
  conv => whnf
  refine ⟨rfl, by simp, ?_⟩
  rw [Int.toNat_natCast, cp_fld]
  conv => whnf
  exact end_of [0] (by rfl) (by rfl) (by rfl) (by exact ⟨rfl, rfl⟩)

theorem cp_sub (l : List (ElT .sub)) (z : ElT .sub) : (List.replicate l.length z).take 0 ++ l.take l.length ++ (List.replicate l.length z).drop (0 + min l.length l.length) = l := by simp

set_option maxRecDepth 100000 in
theorem c_cpI_sub (l : List (ElT .sub)) (hl : l.length ≤ 1048576) : SpecD S 42 [.imm .sub l] [] (.imm .sub l) [] := by
  refine specE ok sh42 rfl ?_
  conv => whnf
  refine ⟨by omega, rfl, ⟨by unfold maxLen; omega, by simp [S]; omega⟩, ?_⟩
  conv => whnf
  refine ⟨rfl, by simp, ?_⟩
  rw [Int.toNat_natCast, cp_sub]
  conv => whnf
  refine endL_of [] [0] (by rfl) (by rfl) (by rfl) trivial ⟨rfl, by simp⟩ ⟨?_, rfl⟩
  show (AV.imm .sub ((l.drop 0).take l.length) : V) = _
  rw [drop_take]

set_option maxRecDepth 100000 in
theorem c_cpO_sub (l : List (ElT .sub)) (hl : l.length ≤ 1048576) : SpecD S 42 [.imm .sub l] [] (.own .sub 0 0 l.length .whole) [.row .sub l] := by
  refine specE ok sh42 rfl ?_
  conv => whnf
  refine ⟨by omega, rfl, ⟨by unfold maxLen; omega, by simp [S]; omega⟩, ?_⟩
  conv => whnf
  refine ⟨rfl, by simp, ?_⟩
  rw [Int.toNat_natCast, cp_sub]
  conv => whnf
  exact end_of [0] (by rfl) (by rfl) (by rfl) (by exact ⟨rfl, rfl⟩)

theorem cp_grp (l : List (ElT .grp)) (z : ElT .grp) : (List.replicate l.length z).take 0 ++ l.take l.length ++ (List.replicate l.length z).drop (0 + min l.length l.length) = l := by simp

set_option maxRecDepth 100000 in
theorem c_cpI_grp (l : List (ElT .grp)) (hl : l.length ≤ 1048576) : SpecD S 41 [.imm .grp l] [] (.imm .grp l) [] := by
  refine specE ok sh41 rfl ?_
  conv => whnf
  refine ⟨by omega, rfl, ⟨by unfold maxLen; omega, by simp [S]; omega⟩, ?_⟩
  conv => whnf
  refine ⟨rfl, by simp, ?_⟩
  rw [Int.toNat_natCast, cp_grp]
  conv => whnf
  refine endL_of [] [0] (by rfl) (by rfl) (by rfl) trivial ⟨rfl, by simp⟩ ⟨?_, rfl⟩
  show (AV.imm .grp ((l.drop 0).take l.length) : V) = _
  rw [drop_take]

set_option maxRecDepth 100000 in
theorem c_cpO_grp (l : List (ElT .grp)) (hl : l.length ≤ 1048576) : SpecD S 41 [.imm .grp l] [] (.own .grp 0 0 l.length .whole) [.row .grp l] := by
  refine specE ok sh41 rfl ?_
  conv => whnf
  refine ⟨by omega, rfl, ⟨by unfold maxLen; omega, by simp [S]; omega⟩, ?_⟩
  conv => whnf
  refine ⟨rfl, by simp, ?_⟩
  rw [Int.toNat_natCast, cp_grp]
  conv => whnf
  exact end_of [0] (by rfl) (by rfl) (by rfl) (by exact ⟨rfl, rfl⟩)

end Sh
end Go.Proofs.YtlnloekadohddaaDoor
