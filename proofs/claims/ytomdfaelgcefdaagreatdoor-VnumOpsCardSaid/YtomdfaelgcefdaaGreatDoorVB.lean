/- MADE BY PROGRAM (vb.py): the rows of opcodes. -/
import Derived.Test.YtomdfaelgcefdaaGreatDoorVA
namespace Go.Proofs.YtomdfaelgcefdaaGreatDoor
open Go
namespace Sh
def fmN : List (Int × Int) := [(0, 2), (2, 3), (5, 1), (8, 1), (10, 2), (12, 2), (14, 1), (15, 1), (16, 1), (17, 1), (18, 1), (19, 1), (20, 2), (26, 2), (28, 1), (31, 1), (32, 7), (40, 23), (63, 2), (65, 1), (66, 1), (67, 1), (68, 1), (69, 11), (80, 11), (91, 6), (97, 6), (103, 18), (121, 18), (139, 14), (153, 14), (167, 5), (172, 6), (178, 5), (183, 5), (188, 4), (192, 5)]
def fmO : List (Int × Int) := [(208, 1), (209, 1), (210, 1), (211, 2), (213, 2), (64256, 2), (64258, 4), (64262, 2), (64264, 1), (64265, 2), (64267, 4), (64271, 1), (64272, 1), (64273, 3), (64276, 4), (64280, 2), (64282, 5), (64512, 8), (64520, 1), (64521, 1), (64522, 1), (64523, 1), (64524, 1), (64525, 1), (64526, 1), (64527, 3)]
def fmOf (l : List El_row) : List (Int × Int) := l.map fun r => (r.first, r.many)
def smallR (l : List El_row) : Bool := l.all fun r => decide (r.head.size ≤ 1000 ∧ r.names.size ≤ 1000)

set_option maxRecDepth 100000 in
set_option maxHeartbeats 4000000 in
theorem c_numbers : Spec S 158 [] [] fun v H => ∃ l : List El_row, (fmOf l = fmN ∧ smallR l = true) ∧ v = .own .row 0 0 l.length .full ∧ H = [.row .row l] := by
  refine specE ok sh158 rfl ?_
  conv => whnf
  refine end_of [0] (by rfl) (by rfl) (by rfl) ⟨_, ⟨?_, ?_⟩, rfl, rfl⟩
  · rfl
  · decide

set_option maxRecDepth 100000 in
set_option maxHeartbeats 4000000 in
theorem c_others : Spec S 159 [] [] fun v H => ∃ l : List El_row, (fmOf l = fmO ∧ smallR l = true) ∧ v = .own .row 0 0 l.length .full ∧ H = [.row .row l] := by
  refine specE ok sh159 rfl ?_
  conv => whnf
  refine end_of [0] (by rfl) (by rfl) (by rfl) ⟨_, ⟨?_, ?_⟩, rfl, rfl⟩
  · rfl
  · decide

end Sh
end Go.Proofs.YtomdfaelgcefdaaGreatDoor
