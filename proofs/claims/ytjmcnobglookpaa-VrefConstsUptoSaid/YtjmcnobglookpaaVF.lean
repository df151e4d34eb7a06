/- VrefConsts: the law. -/
import Derived.Test.YtjmcnobglookpaaVD
import Derived.Test.YtjmcnobglookpaaReads
namespace Go.Proofs.Ytjmcnobglookpaa
open Go
namespace Sh
abbrev iA : El_instr := ⟨65, 0, 0, 0, 0, 0, 0, 0, 0, false, 0, none, none, false, none, none, none⟩
abbrev iB : El_instr := ⟨109, 0, 0, 0, 0, 0, 0, 0, 0, false, 0, none, none, false, none, none, none⟩
def awV (j : Int) : List V := [.int .i64 0, .ptr 1 0, .own .instr 0 0 2 .full, .int .i64 2, .int .i64 j]
abbrev nlC : List V := [.nils, .nils, .nils, .nils, .nils, .nils, .nils, .int .i64 0, .nils]

set_option maxRecDepth 100000 in
set_option maxHeartbeats 4000000 in
theorem c_constA : SpecD S 4 [.agg nlC, .own .instr 0 0 2 .full, .int .i64 0] [.row .instr [iA, iB]] (.tup [.int .i64 1, .int .i64 160]) [.row .instr [iA, iB]] := by
  refine specE ok sh4 rfl ?_
  conv => whnf
  refine loop_of [] [0, 1] (fun vs H => ∃ (j : Nat), j ≤ 1 ∧ vs = awV j ∧ H = [.row .instr [iA, iB], .cells nlC])
    (fun vs _ => match vs with | [_, _, _, _, .int _ j] => 2 - j.toNat | _ => 0) (by rfl) (by rfl) (by rfl) (by rfl) ⟨0, Nat.zero_le _, rfl, rfl⟩ ?_
  rintro vs H1 ⟨j, hj, rfl, rfl⟩
  rcases j with _ | _ | j
  · conv => whnf
    refine ⟨rfl, by decide, by decide, ?_⟩
    conv => whnf
    refine ⟨rfl, by decide, (by decide : 0 + 17 ≤ 17), ?_⟩
    conv => whnf
    refine ⟨[0, 1], [], relo_of [0, 1] (by rfl) (by rfl), ?_⟩
    exact ⟨⟨1, by decide, rfl, rfl⟩, by decide⟩
  · conv => whnf
    refine ⟨rfl, by decide, by decide, ?_⟩
    conv => whnf
    refine ⟨rfl, by decide, (by decide : 0 + 17 ≤ 17), ?_⟩
    conv => whnf
    exact end_of [0] (by rfl) (by rfl) (by rfl) (by exact ⟨rfl, rfl⟩)
  · omega

set_option maxRecDepth 100000 in
theorem c_awake : SpecD S 8 [] [] (.bool true) [] := by
  refine specE ok sh8 rfl ?_
  conv => whnf
  refine call_of [0] (c_constA) (by rfl) (by rfl) ?_
  conv => whnf
  try (refine And.intro (by repeat first | exact trivial | refine And.intro (by first | rfl | exact trivial) ?_) ?_; conv => whnf)
  exact end_of [] (by rfl) (by rfl) (by rfl) (by exact ⟨rfl, rfl⟩)
end Sh
end Go.Proofs.Ytjmcnobglookpaa
