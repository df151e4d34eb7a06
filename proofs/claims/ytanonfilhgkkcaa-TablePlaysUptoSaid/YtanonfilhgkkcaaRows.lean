/-
  No cell of these rows narrows 'for every input' (looked for: loops, veiled, ifaces, maps, wideKeys, modest, calm, conditions, laid).
  DERIVED. THE GIVEN ROWS OF THIS SEAT. 4 by the template 'for every input the law returns true; each argument reads behind the call as it read before'; 0 by the template 'total and deterministic' (their statements: YtanonfilhgkkcaaTotals.lean).
  GIVEN WITH THE SEED: the statements are not yours to turn. If you find one false, say at which input.
  Laid BY PROGRAM, IN A SANDBOX (cutbox-rows.mjs): the forced cells as the released guide's own fill.sh prints them over the translation 6b1b503c29f56ebf… (all of the seat's roots in one cut). By AI agents, Wed Nov 11 2026. No macro, syntax, notation, axiom, sorry.
-/
import Derived.Test.YtanonfilhgkkcaaChecked
import GoSem.Claim
import GoSem.ClaimJoined
import GoSem.ClaimMapViews
import Derived.JoinedTies
import Derived.KernelRfl
namespace Go.Proofs.Ytanonfilhgkkcaa
/- THE CELL 'sum', in the pinned program and in every row, IS THE sha256 OF THE DUMP (.gsa) THAT YtanonfilhgkkcaaProg.lean LOADS. Nothing in Lean hashes anything: it is a label: what it is worth is what the hold of that sum in a sandbox is worth. -/
noncomputable def Try.pinned : Pinned := { name := "ytanonfilhgkkcaa", sum := "6b1b503c29f56ebf5ce743ae24351f6e44855736269bb4f62d05936243ab3010", checked := Try.checked }
namespace Rows
def none {H : Type} : Left H := { results := [], args := [] }

/-- 'ratchetlaw22.TableBack': WHATEVER THE INPUT: true; the input reads as it did. -/
def tableBackSpec : ChangeSpec := { name := "tableBack", fn := fun _ => fun
  | [d1, d2, d3, d4, d5, d6] => { results := [.lit (.bool true)], args := [d1, d2, d3, d4, d5, d6] }
  | _ => none }
def tableBackRow : OpenClaim := { program := "ytanonfilhgkkcaa", sum := "6b1b503c29f56ebf5ce743ae24351f6e44855736269bb4f62d05936243ab3010", func := "ratchet/ratchetlaw22.TableBack", spec := "tableBack", apart := false }
def TableBackSaid : Prop := tableBackRow.holds Try.pinned (OpenSpec.ofChange tableBackSpec)

/-- ITS FALSE NEIGHBOUR: 'it returns false'. Refute it at one input. -/
def tableBackWrong : ChangeSpec := { name := "tableBack", fn := fun _ => fun
  | [d1, d2, d3, d4, d5, d6] => { results := [.lit (.bool false)], args := [d1, d2, d3, d4, d5, d6] }
  | _ => none }
def TableBackWrongFalsely : Prop := tableBackRow.holds Try.pinned (OpenSpec.ofChange tableBackWrong)

/-- 'ratchetlaw22.TableSegments': WHATEVER THE INPUT: true; the input reads as it did. -/
def tableSegmentsSpec : ChangeSpec := { name := "tableSegments", fn := fun _ => fun
  | [d1, d2, d3] => { results := [.lit (.bool true)], args := [d1, d2, d3] }
  | _ => none }
def tableSegmentsRow : OpenClaim := { program := "ytanonfilhgkkcaa", sum := "6b1b503c29f56ebf5ce743ae24351f6e44855736269bb4f62d05936243ab3010", func := "ratchet/ratchetlaw22.TableSegments", spec := "tableSegments", apart := false }
def TableSegmentsSaid : Prop := tableSegmentsRow.holds Try.pinned (OpenSpec.ofChange tableSegmentsSpec)

/-- ITS FALSE NEIGHBOUR: 'it returns false'. Refute it at one input. -/
def tableSegmentsWrong : ChangeSpec := { name := "tableSegments", fn := fun _ => fun
  | [d1, d2, d3] => { results := [.lit (.bool false)], args := [d1, d2, d3] }
  | _ => none }
def TableSegmentsWrongFalsely : Prop := tableSegmentsRow.holds Try.pinned (OpenSpec.ofChange tableSegmentsWrong)

/-- 'ratchetlaw22.TablePlays': WHATEVER THE INPUT: true; the input reads as it did. -/
def tablePlaysSpec : ChangeSpec := { name := "tablePlays", fn := fun _ => fun
  | [d1, d2, d3] => { results := [.lit (.bool true)], args := [d1, d2, d3] }
  | _ => none }
def tablePlaysRow : OpenClaim := { program := "ytanonfilhgkkcaa", sum := "6b1b503c29f56ebf5ce743ae24351f6e44855736269bb4f62d05936243ab3010", func := "ratchet/ratchetlaw22.TablePlays", spec := "tablePlays", apart := false }
def TablePlaysSaid : Prop := tablePlaysRow.holds Try.pinned (OpenSpec.ofChange tablePlaysSpec)

/-- ITS FALSE NEIGHBOUR: 'it returns false'. Refute it at one input. -/
def tablePlaysWrong : ChangeSpec := { name := "tablePlays", fn := fun _ => fun
  | [d1, d2, d3] => { results := [.lit (.bool false)], args := [d1, d2, d3] }
  | _ => none }
def TablePlaysWrongFalsely : Prop := tablePlaysRow.holds Try.pinned (OpenSpec.ofChange tablePlaysWrong)

/-- 'ratchetlaw22.TableZero': WHATEVER THE INPUT: true; the input reads as it did. -/
def tableZeroSpec : ChangeSpec := { name := "tableZero", fn := fun _ => fun
  | [d1, d2] => { results := [.lit (.bool true)], args := [d1, d2] }
  | _ => none }
def tableZeroRow : OpenClaim := { program := "ytanonfilhgkkcaa", sum := "6b1b503c29f56ebf5ce743ae24351f6e44855736269bb4f62d05936243ab3010", func := "ratchet/ratchetlaw22.TableZero", spec := "tableZero", apart := false }
def TableZeroSaid : Prop := tableZeroRow.holds Try.pinned (OpenSpec.ofChange tableZeroSpec)

/-- ITS FALSE NEIGHBOUR: 'it returns false'. Refute it at one input. -/
def tableZeroWrong : ChangeSpec := { name := "tableZero", fn := fun _ => fun
  | [d1, d2] => { results := [.lit (.bool false)], args := [d1, d2] }
  | _ => none }
def TableZeroWrongFalsely : Prop := tableZeroRow.holds Try.pinned (OpenSpec.ofChange tableZeroWrong)

/- THE SECOND FORM. 'bulk': how many values and letters a reading holds, each counted each time it is reached (what is shared counts as often as it is met; a slice's spare places count too). A statement '..UptoSaid' is the law's where the arguments, and the package variables that the reading takes, are together of bulk at most 1048576: NARROWER than '..Said'. Prove '..Said' where nothing that the law and all that it calls make is longer than what came in: it says more and counts as full. Else prove '..UptoSaid'. A law counts once. -/
mutual
def uptoBulk {H : Type} : DataW H → Nat
  | .lit (.string bytes) => bytes.length + 1
  | .lit _ => 1
  | .nil => 1
  | .ptr d => uptoBulk d + 1
  | .slice elems spare => uptoBulkAll elems + uptoBulkAll spare + 1
  | .agg parts => uptoBulkAll parts + 1
  | .iface _ d => uptoBulk d + 1
  | .map entries => uptoBulkEntries entries + 1
  | .held _ => 1
def uptoBulkAll {H : Type} : List (DataW H) → Nat
  | [] => 0
  | d :: r => uptoBulk d + uptoBulkAll r
def uptoBulkEntries {H : Type} : List (Lit × DataW H) → Nat
  | [] => 0
  | x :: r => uptoBulkEntry x + uptoBulkEntries r
def uptoBulkEntry {H : Type} : Lit × DataW H → Nat
  | (.string bytes, d) => bytes.length + uptoBulk d + 1
  | (_, d) => uptoBulk d + 1
 end
def uptoSmall : (H : Type) → List (DataW H) → Bool := fun _ ds => decide (uptoBulkAll ds ≤ 1048576)
def OpenSpec.upto (s : _root_.Go.ChangeSpec) : _root_.Go.OpenSpec := { _root_.Go.OpenSpec.ofChange s with cond := some uptoSmall }

/-- 'ratchetlaw22.TableBack', WHERE WHAT IT READS IS OF BULK AT MOST 1048576: true; the input reads as it did. -/
def tableBackUptoRow : OpenClaim := { program := "ytanonfilhgkkcaa", sum := "6b1b503c29f56ebf5ce743ae24351f6e44855736269bb4f62d05936243ab3010", func := "ratchet/ratchetlaw22.TableBack", spec := "tableBack", apart := false, narrowed := true }
def TableBackUptoSaid : Prop := tableBackUptoRow.holds Try.pinned (OpenSpec.upto tableBackSpec)

/-- 'ratchetlaw22.TableSegments', WHERE WHAT IT READS IS OF BULK AT MOST 1048576: true; the input reads as it did. -/
def tableSegmentsUptoRow : OpenClaim := { program := "ytanonfilhgkkcaa", sum := "6b1b503c29f56ebf5ce743ae24351f6e44855736269bb4f62d05936243ab3010", func := "ratchet/ratchetlaw22.TableSegments", spec := "tableSegments", apart := false, narrowed := true }
def TableSegmentsUptoSaid : Prop := tableSegmentsUptoRow.holds Try.pinned (OpenSpec.upto tableSegmentsSpec)

/-- 'ratchetlaw22.TablePlays', WHERE WHAT IT READS IS OF BULK AT MOST 1048576: true; the input reads as it did. -/
def tablePlaysUptoRow : OpenClaim := { program := "ytanonfilhgkkcaa", sum := "6b1b503c29f56ebf5ce743ae24351f6e44855736269bb4f62d05936243ab3010", func := "ratchet/ratchetlaw22.TablePlays", spec := "tablePlays", apart := false, narrowed := true }
def TablePlaysUptoSaid : Prop := tablePlaysUptoRow.holds Try.pinned (OpenSpec.upto tablePlaysSpec)

/-- 'ratchetlaw22.TableZero', WHERE WHAT IT READS IS OF BULK AT MOST 1048576: true; the input reads as it did. -/
def tableZeroUptoRow : OpenClaim := { program := "ytanonfilhgkkcaa", sum := "6b1b503c29f56ebf5ce743ae24351f6e44855736269bb4f62d05936243ab3010", func := "ratchet/ratchetlaw22.TableZero", spec := "tableZero", apart := false, narrowed := true }
def TableZeroUptoSaid : Prop := tableZeroUptoRow.holds Try.pinned (OpenSpec.upto tableZeroSpec)

end Rows
end Go.Proofs.Ytanonfilhgkkcaa
