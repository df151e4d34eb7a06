/-
  DERIVED. GIVEN WITH THE SEED: THE CARDS: each row of YtlnloekadohddaaDoorRows.lean that lists a variable, with what it lists TIED to the program's text (the seventh form; the later family's looks); each row that meets fmt, with fmt's text TOLD by the authors' own Lean function (tested against real Go, not proved from fmt's source: count such statements apart). THE CARD IS WHAT COUNTS. Prove the row's statement (the work); the ties are given (YtlnloekadohddaaDoorTie.lean); close each card by the builder's one call (the guide's Derived/Test/ToyasCard.lean, 'card_holds'). Laid BY PROGRAM, IN A SANDBOX (cutbox-door.mjs). By AI agents, Wed Nov 11 2026. No macro, syntax, notation, axiom, sorry.
-/
import Derived.Test.YtlnloekadohddaaDoorRows
import GoSem.ClaimSeven
namespace Go.Proofs.YtlnloekadohddaaDoor
namespace Rows

/-- THE TIED CARD OF 'ratchetlaw13.StackDead'. -/
def stackDeadCard : Claim7 := { stood := { row := stackDeadRow, standIns := [], harness := (true, "fb898fc9c677ae5da1651fc69c89efad45a30d6e4747abcaa69af8afe7a46c0c"), looks := false }, kinds := [], alts := [], laidByText := true, laidKinds := [.data, .data, .data], laidTests := true, laidLooks := .later }
def StackDeadCardSaid : Prop := Claim7.holds Tryd.pinned (.plain (OpenSpec.ofChange stackDeadSpec)) stackDeadCard

/-- THE TIED CARD OF 'ratchetlaw13.StackBlocks'. -/
def stackBlocksCard : Claim7 := { stood := { row := stackBlocksRow, standIns := [], harness := (true, "fb898fc9c677ae5da1651fc69c89efad45a30d6e4747abcaa69af8afe7a46c0c"), looks := false }, kinds := [], alts := [], laidByText := true, laidKinds := [.data, .data, .data], laidTests := true, laidLooks := .later }
def StackBlocksCardSaid : Prop := Claim7.holds Tryd.pinned (.plain (OpenSpec.ofChange stackBlocksSpec)) stackBlocksCard

/-- THE SECOND FORM's CARD OF 'ratchetlaw13.StackDead'. -/
def stackDeadUptoCard : Claim7 := { stood := { row := stackDeadUptoRow, standIns := [], harness := (true, "fb898fc9c677ae5da1651fc69c89efad45a30d6e4747abcaa69af8afe7a46c0c"), looks := false }, kinds := [], alts := [], laidByText := true, laidKinds := [.data, .data, .data], laidTests := true, laidLooks := .later }
def StackDeadUptoCardSaid : Prop := Claim7.holds Tryd.pinned (.plain (OpenSpec.upto stackDeadSpec)) stackDeadUptoCard

/-- THE SECOND FORM's CARD OF 'ratchetlaw13.StackBlocks'. -/
def stackBlocksUptoCard : Claim7 := { stood := { row := stackBlocksUptoRow, standIns := [], harness := (true, "fb898fc9c677ae5da1651fc69c89efad45a30d6e4747abcaa69af8afe7a46c0c"), looks := false }, kinds := [], alts := [], laidByText := true, laidKinds := [.data, .data, .data], laidTests := true, laidLooks := .later }
def StackBlocksUptoCardSaid : Prop := Claim7.holds Tryd.pinned (.plain (OpenSpec.upto stackBlocksSpec)) stackBlocksUptoCard
end Rows
end Go.Proofs.YtlnloekadohddaaDoor
