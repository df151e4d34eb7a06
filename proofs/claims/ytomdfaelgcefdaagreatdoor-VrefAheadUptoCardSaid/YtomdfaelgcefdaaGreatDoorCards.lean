/-
  DERIVED. GIVEN WITH THE SEED: THE CARDS: each row of YtomdfaelgcefdaaGreatDoorRows.lean that lists a variable, with what it lists TIED to the program's text (the seventh form; the later family's looks); each row that meets fmt, with fmt's text TOLD by the authors' own Lean function (tested against real Go, not proved from fmt's source: count such statements apart). THE CARD IS WHAT COUNTS. Prove the row's statement (the work); the ties are given (YtomdfaelgcefdaaGreatDoorTie.lean); close each card by the builder's one call (the guide's Derived/Test/ToyasCard.lean, 'card_holds'). Laid BY PROGRAM, IN A SANDBOX (cutbox-door.mjs). By AI agents, Wed Nov 11 2026. No macro, syntax, notation, axiom, sorry.
-/
import Derived.Test.YtomdfaelgcefdaaGreatDoorRows
import GoSem.ClaimSeven
namespace Go.Proofs.YtomdfaelgcefdaaGreatDoor
namespace Rows

/-- THE TIED CARD OF 'ratchetlaw13.StackRefused'. -/
def stackRefusedCard : Claim7 := { stood := { row := stackRefusedRow, standIns := [], harness := (true, "d09885874f1738f4b67d009b124741ba8839eb72033c06b2f3f7e3251b152f11"), looks := true }, kinds := [], alts := [], laidByText := true, laidKinds := [.data, .data, .data], laidTests := true, laidLooks := .later }
def StackRefusedCardSaid : Prop := Claim7.holds Tryz.pinned (.plain (OpenSpec.ofChange stackRefusedSpec)) stackRefusedCard

/-- THE TIED CARD OF 'ratchetlaw16.VrefDead'. -/
def vrefDeadCard : Claim7 := { stood := { row := vrefDeadRow, standIns := [], harness := (true, "d09885874f1738f4b67d009b124741ba8839eb72033c06b2f3f7e3251b152f11"), looks := true }, kinds := [], alts := [], laidByText := true, laidKinds := [.data, .data, .data], laidTests := true, laidLooks := .later }
def VrefDeadCardSaid : Prop := Claim7.holds Tryz.pinned (.plain (OpenSpec.ofChange vrefDeadSpec)) vrefDeadCard

/-- THE TIED CARD OF 'ratchetlaw16.VrefAhead'. -/
def vrefAheadCard : Claim7 := { stood := { row := vrefAheadRow, standIns := [], harness := (true, "d09885874f1738f4b67d009b124741ba8839eb72033c06b2f3f7e3251b152f11"), looks := true }, kinds := [], alts := [], laidByText := true, laidKinds := [.data, .data, .data], laidTests := true, laidLooks := .later }
def VrefAheadCardSaid : Prop := Claim7.holds Tryz.pinned (.plain (OpenSpec.ofChange vrefAheadSpec)) vrefAheadCard

/-- THE TIED CARD OF 'ratchetlaw16.VrefCasts'. -/
def vrefCastsCard : Claim7 := { stood := { row := vrefCastsRow, standIns := [], harness := (true, "d09885874f1738f4b67d009b124741ba8839eb72033c06b2f3f7e3251b152f11"), looks := true }, kinds := [], alts := [], laidByText := true, laidKinds := [.data, .data, .data], laidTests := true, laidLooks := .later }
def VrefCastsCardSaid : Prop := Claim7.holds Tryz.pinned (.plain (OpenSpec.ofChange vrefCastsSpec)) vrefCastsCard

/-- THE TIED CARD OF 'ratchetlaw14.VnumOps'. -/
def vnumOpsCard : Claim7 := { stood := { row := vnumOpsRow, standIns := [], harness := (true, "d09885874f1738f4b67d009b124741ba8839eb72033c06b2f3f7e3251b152f11"), looks := true }, kinds := [], alts := [], laidByText := true, laidKinds := [.data, .data, .data, .sentinel, .sentinel], laidTests := true, laidLooks := .later }
def VnumOpsCardSaid : Prop := Claim7.holds Tryz.pinned (.plain (OpenSpec.ofChange vnumOpsSpec)) vnumOpsCard

/-- THE TIED CARD OF 'ratchetlaw14.VnumAhead'. -/
def vnumAheadCard : Claim7 := { stood := { row := vnumAheadRow, standIns := [], harness := (true, "d09885874f1738f4b67d009b124741ba8839eb72033c06b2f3f7e3251b152f11"), looks := true }, kinds := [], alts := [], laidByText := true, laidKinds := [.data, .data, .data, .sentinel, .sentinel], laidTests := true, laidLooks := .later }
def VnumAheadCardSaid : Prop := Claim7.holds Tryz.pinned (.plain (OpenSpec.ofChange vnumAheadSpec)) vnumAheadCard

/-- THE TIED CARD OF 'ratchetlaw14.VnumDead'. -/
def vnumDeadCard : Claim7 := { stood := { row := vnumDeadRow, standIns := [], harness := (true, "d09885874f1738f4b67d009b124741ba8839eb72033c06b2f3f7e3251b152f11"), looks := true }, kinds := [], alts := [], laidByText := true, laidKinds := [.data, .data, .data, .sentinel, .sentinel], laidTests := true, laidLooks := .later }
def VnumDeadCardSaid : Prop := Claim7.holds Tryz.pinned (.plain (OpenSpec.ofChange vnumDeadSpec)) vnumDeadCard

/-- THE TIED CARD OF 'ratchetlaw14.VnumSteps'. -/
def vnumStepsCard : Claim7 := { stood := { row := vnumStepsRow, standIns := [], harness := (true, "d09885874f1738f4b67d009b124741ba8839eb72033c06b2f3f7e3251b152f11"), looks := true }, kinds := [], alts := [], laidByText := true, laidKinds := [.data, .data, .data, .sentinel, .sentinel], laidTests := true, laidLooks := .later }
def VnumStepsCardSaid : Prop := Claim7.holds Tryz.pinned (.plain (OpenSpec.ofChange vnumStepsSpec)) vnumStepsCard

/-- THE SECOND FORM's CARD OF 'ratchetlaw13.StackRefused'. -/
def stackRefusedUptoCard : Claim7 := { stood := { row := stackRefusedUptoRow, standIns := [], harness := (true, "d09885874f1738f4b67d009b124741ba8839eb72033c06b2f3f7e3251b152f11"), looks := true }, kinds := [], alts := [], laidByText := true, laidKinds := [.data, .data, .data], laidTests := true, laidLooks := .later }
def StackRefusedUptoCardSaid : Prop := Claim7.holds Tryz.pinned (.plain (OpenSpec.upto stackRefusedSpec)) stackRefusedUptoCard

/-- THE SECOND FORM's CARD OF 'ratchetlaw16.VrefDead'. -/
def vrefDeadUptoCard : Claim7 := { stood := { row := vrefDeadUptoRow, standIns := [], harness := (true, "d09885874f1738f4b67d009b124741ba8839eb72033c06b2f3f7e3251b152f11"), looks := true }, kinds := [], alts := [], laidByText := true, laidKinds := [.data, .data, .data], laidTests := true, laidLooks := .later }
def VrefDeadUptoCardSaid : Prop := Claim7.holds Tryz.pinned (.plain (OpenSpec.upto vrefDeadSpec)) vrefDeadUptoCard

/-- THE SECOND FORM's CARD OF 'ratchetlaw16.VrefAhead'. -/
def vrefAheadUptoCard : Claim7 := { stood := { row := vrefAheadUptoRow, standIns := [], harness := (true, "d09885874f1738f4b67d009b124741ba8839eb72033c06b2f3f7e3251b152f11"), looks := true }, kinds := [], alts := [], laidByText := true, laidKinds := [.data, .data, .data], laidTests := true, laidLooks := .later }
def VrefAheadUptoCardSaid : Prop := Claim7.holds Tryz.pinned (.plain (OpenSpec.upto vrefAheadSpec)) vrefAheadUptoCard

/-- THE SECOND FORM's CARD OF 'ratchetlaw16.VrefCasts'. -/
def vrefCastsUptoCard : Claim7 := { stood := { row := vrefCastsUptoRow, standIns := [], harness := (true, "d09885874f1738f4b67d009b124741ba8839eb72033c06b2f3f7e3251b152f11"), looks := true }, kinds := [], alts := [], laidByText := true, laidKinds := [.data, .data, .data], laidTests := true, laidLooks := .later }
def VrefCastsUptoCardSaid : Prop := Claim7.holds Tryz.pinned (.plain (OpenSpec.upto vrefCastsSpec)) vrefCastsUptoCard

/-- THE SECOND FORM's CARD OF 'ratchetlaw14.VnumOps'. -/
def vnumOpsUptoCard : Claim7 := { stood := { row := vnumOpsUptoRow, standIns := [], harness := (true, "d09885874f1738f4b67d009b124741ba8839eb72033c06b2f3f7e3251b152f11"), looks := true }, kinds := [], alts := [], laidByText := true, laidKinds := [.data, .data, .data, .sentinel, .sentinel], laidTests := true, laidLooks := .later }
def VnumOpsUptoCardSaid : Prop := Claim7.holds Tryz.pinned (.plain (OpenSpec.upto vnumOpsSpec)) vnumOpsUptoCard

/-- THE SECOND FORM's CARD OF 'ratchetlaw14.VnumAhead'. -/
def vnumAheadUptoCard : Claim7 := { stood := { row := vnumAheadUptoRow, standIns := [], harness := (true, "d09885874f1738f4b67d009b124741ba8839eb72033c06b2f3f7e3251b152f11"), looks := true }, kinds := [], alts := [], laidByText := true, laidKinds := [.data, .data, .data, .sentinel, .sentinel], laidTests := true, laidLooks := .later }
def VnumAheadUptoCardSaid : Prop := Claim7.holds Tryz.pinned (.plain (OpenSpec.upto vnumAheadSpec)) vnumAheadUptoCard

/-- THE SECOND FORM's CARD OF 'ratchetlaw14.VnumDead'. -/
def vnumDeadUptoCard : Claim7 := { stood := { row := vnumDeadUptoRow, standIns := [], harness := (true, "d09885874f1738f4b67d009b124741ba8839eb72033c06b2f3f7e3251b152f11"), looks := true }, kinds := [], alts := [], laidByText := true, laidKinds := [.data, .data, .data, .sentinel, .sentinel], laidTests := true, laidLooks := .later }
def VnumDeadUptoCardSaid : Prop := Claim7.holds Tryz.pinned (.plain (OpenSpec.upto vnumDeadSpec)) vnumDeadUptoCard

/-- THE SECOND FORM's CARD OF 'ratchetlaw14.VnumSteps'. -/
def vnumStepsUptoCard : Claim7 := { stood := { row := vnumStepsUptoRow, standIns := [], harness := (true, "d09885874f1738f4b67d009b124741ba8839eb72033c06b2f3f7e3251b152f11"), looks := true }, kinds := [], alts := [], laidByText := true, laidKinds := [.data, .data, .data, .sentinel, .sentinel], laidTests := true, laidLooks := .later }
def VnumStepsUptoCardSaid : Prop := Claim7.holds Tryz.pinned (.plain (OpenSpec.upto vnumStepsSpec)) vnumStepsUptoCard
end Rows
end Go.Proofs.YtomdfaelgcefdaaGreatDoor
