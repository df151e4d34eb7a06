/-
  DERIVED. GIVEN WITH THE SEED: THE CARDS: each row of YtgdljnmlmpecmaaGreatDoorRows.lean that lists a variable, with what it lists TIED to the program's text (the seventh form; the later family's looks); each row that meets fmt, with fmt's text TOLD by the authors' own Lean function (tested against real Go, not proved from fmt's source: count such statements apart). THE CARD IS WHAT COUNTS. Prove the row's statement (the work); the ties are given (YtgdljnmlmpecmaaGreatDoorTie.lean); close each card by the builder's one call (the guide's Derived/Test/ToyasCard.lean, 'card_holds'). Laid BY PROGRAM, IN A SANDBOX (cutbox-door.mjs). By AI agents, Wed Nov 11 2026. No macro, syntax, notation, axiom, sorry.
-/
import Derived.Test.YtgdljnmlmpecmaaGreatDoorRows
import GoSem.ClaimSeven
namespace Go.Proofs.YtgdljnmlmpecmaaGreatDoor
namespace Rows

/-- THE TIED CARD OF 'ratchetlaw25.HostZero'. -/
def hostZeroCard : Claim7 := { stood := { row := hostZeroRow, standIns := [], harness := (true, "12128af3b36ef0c0d855524e0651b1f4f9a6d1632bdb0e78aef7a5369cc9acf6"), looks := false }, kinds := [], alts := [], laidByText := true, laidKinds := [.data, .data, .data], laidTests := true, laidLooks := .later }
def HostZeroCardSaid : Prop := Claim7.holds Tryz.pinned (.plain (OpenSpec.ofChange hostZeroSpec)) hostZeroCard

/-- THE SECOND FORM's CARD OF 'ratchetlaw25.HostZero'. -/
def hostZeroUptoCard : Claim7 := { stood := { row := hostZeroUptoRow, standIns := [], harness := (true, "12128af3b36ef0c0d855524e0651b1f4f9a6d1632bdb0e78aef7a5369cc9acf6"), looks := false }, kinds := [], alts := [], laidByText := true, laidKinds := [.data, .data, .data], laidTests := true, laidLooks := .later }
def HostZeroUptoCardSaid : Prop := Claim7.holds Tryz.pinned (.plain (OpenSpec.upto hostZeroSpec)) hostZeroUptoCard
end Rows
end Go.Proofs.YtgdljnmlmpecmaaGreatDoor
