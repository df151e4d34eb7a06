/-
  DERIVED. GIVEN WITH THE SEED: THE CARDS: each row of YtoegodeglgeomaaDoorRows.lean that lists a variable, with what it lists TIED to the program's text (the seventh form; the later family's looks); each row that meets fmt, with fmt's text TOLD by the authors' own Lean function (tested against real Go, not proved from fmt's source: count such statements apart). THE CARD IS WHAT COUNTS. Prove the row's statement (the work); the ties are given (YtoegodeglgeomaaDoorTie.lean); close each card by the builder's one call (the guide's Derived/Test/ToyasCard.lean, 'card_holds'). Laid BY PROGRAM, IN A SANDBOX (cutbox-door.mjs). By AI agents, Wed Nov 11 2026. No macro, syntax, notation, axiom, sorry.
-/
import Derived.Test.YtoegodeglgeomaaDoorRows
import GoSem.ClaimSeven
namespace Go.Proofs.YtoegodeglgeomaaDoor
namespace Rows

/-- THE TIED CARD OF 'ratchetlaw03.InumOps'. -/
def inumOpsCard : Claim7 := { stood := { row := inumOpsRow, standIns := [], harness := (true, "e7014158aaeb268ba1d52382904807baee33985fc7c020ed9b3ffb906d0b686b"), looks := false }, kinds := [], alts := [], laidByText := true, laidKinds := [.listed, .data], laidTests := true, laidLooks := .later }
def InumOpsCardSaid : Prop := Claim7.holds Tryd.pinned (.plain (OpenSpec.ofChange inumOpsSpec)) inumOpsCard

/-- THE TIED CARD OF 'ratchetlaw03.InumBinary'. -/
def inumBinaryCard : Claim7 := { stood := { row := inumBinaryRow, standIns := [], harness := (true, "e7014158aaeb268ba1d52382904807baee33985fc7c020ed9b3ffb906d0b686b"), looks := false }, kinds := [], alts := [], laidByText := true, laidKinds := [.listed, .data], laidTests := true, laidLooks := .later }
def InumBinaryCardSaid : Prop := Claim7.holds Tryd.pinned (.plain (OpenSpec.ofChange inumBinarySpec)) inumBinaryCard

/-- THE TIED CARD OF 'ratchetlaw03.InumDivides'. -/
def inumDividesCard : Claim7 := { stood := { row := inumDividesRow, standIns := [], harness := (true, "e7014158aaeb268ba1d52382904807baee33985fc7c020ed9b3ffb906d0b686b"), looks := false }, kinds := [], alts := [], laidByText := true, laidKinds := [.listed, .data], laidTests := true, laidLooks := .later }
def InumDividesCardSaid : Prop := Claim7.holds Tryd.pinned (.plain (OpenSpec.ofChange inumDividesSpec)) inumDividesCard

/-- THE TIED CARD OF 'ratchetlaw03.InumOrders'. -/
def inumOrdersCard : Claim7 := { stood := { row := inumOrdersRow, standIns := [], harness := (true, "e7014158aaeb268ba1d52382904807baee33985fc7c020ed9b3ffb906d0b686b"), looks := false }, kinds := [], alts := [], laidByText := true, laidKinds := [.listed, .data], laidTests := true, laidLooks := .later }
def InumOrdersCardSaid : Prop := Claim7.holds Tryd.pinned (.plain (OpenSpec.ofChange inumOrdersSpec)) inumOrdersCard

/-- THE TIED CARD OF 'ratchetlaw03.InumKnows'. -/
def inumKnowsCard : Claim7 := { stood := { row := inumKnowsRow, standIns := [], harness := (true, "e7014158aaeb268ba1d52382904807baee33985fc7c020ed9b3ffb906d0b686b"), looks := false }, kinds := [], alts := [], laidByText := true, laidKinds := [.listed, .data], laidTests := true, laidLooks := .later }
def InumKnowsCardSaid : Prop := Claim7.holds Tryd.pinned (.plain (OpenSpec.ofChange inumKnowsSpec)) inumKnowsCard

/-- THE TIED CARD OF 'ratchetlaw03.InumUnary'. -/
def inumUnaryCard : Claim7 := { stood := { row := inumUnaryRow, standIns := [], harness := (true, "e7014158aaeb268ba1d52382904807baee33985fc7c020ed9b3ffb906d0b686b"), looks := false }, kinds := [], alts := [], laidByText := true, laidKinds := [.data, .data, .listed, .data], laidTests := true, laidLooks := .later }
def InumUnaryCardSaid : Prop := Claim7.holds Tryd.pinned (.plain (OpenSpec.ofChange inumUnarySpec)) inumUnaryCard

/-- THE TIED CARD OF 'ratchetlaw03.InumTurns'. -/
def inumTurnsCard : Claim7 := { stood := { row := inumTurnsRow, standIns := [], harness := (true, "e7014158aaeb268ba1d52382904807baee33985fc7c020ed9b3ffb906d0b686b"), looks := false }, kinds := [], alts := [], laidByText := true, laidKinds := [.data, .data, .listed, .data], laidTests := true, laidLooks := .later }
def InumTurnsCardSaid : Prop := Claim7.holds Tryd.pinned (.plain (OpenSpec.ofChange inumTurnsSpec)) inumTurnsCard

/-- THE TIED CARD OF 'ratchetlaw03.InumExtends'. -/
def inumExtendsCard : Claim7 := { stood := { row := inumExtendsRow, standIns := [], harness := (true, "e7014158aaeb268ba1d52382904807baee33985fc7c020ed9b3ffb906d0b686b"), looks := false }, kinds := [], alts := [], laidByText := true, laidKinds := [.data, .data, .listed, .data], laidTests := true, laidLooks := .later }
def InumExtendsCardSaid : Prop := Claim7.holds Tryd.pinned (.plain (OpenSpec.ofChange inumExtendsSpec)) inumExtendsCard

/-- THE SECOND FORM's CARD OF 'ratchetlaw03.InumOps'. -/
def inumOpsUptoCard : Claim7 := { stood := { row := inumOpsUptoRow, standIns := [], harness := (true, "e7014158aaeb268ba1d52382904807baee33985fc7c020ed9b3ffb906d0b686b"), looks := false }, kinds := [], alts := [], laidByText := true, laidKinds := [.listed, .data], laidTests := true, laidLooks := .later }
def InumOpsUptoCardSaid : Prop := Claim7.holds Tryd.pinned (.plain (OpenSpec.upto inumOpsSpec)) inumOpsUptoCard

/-- THE SECOND FORM's CARD OF 'ratchetlaw03.InumBinary'. -/
def inumBinaryUptoCard : Claim7 := { stood := { row := inumBinaryUptoRow, standIns := [], harness := (true, "e7014158aaeb268ba1d52382904807baee33985fc7c020ed9b3ffb906d0b686b"), looks := false }, kinds := [], alts := [], laidByText := true, laidKinds := [.listed, .data], laidTests := true, laidLooks := .later }
def InumBinaryUptoCardSaid : Prop := Claim7.holds Tryd.pinned (.plain (OpenSpec.upto inumBinarySpec)) inumBinaryUptoCard

/-- THE SECOND FORM's CARD OF 'ratchetlaw03.InumDivides'. -/
def inumDividesUptoCard : Claim7 := { stood := { row := inumDividesUptoRow, standIns := [], harness := (true, "e7014158aaeb268ba1d52382904807baee33985fc7c020ed9b3ffb906d0b686b"), looks := false }, kinds := [], alts := [], laidByText := true, laidKinds := [.listed, .data], laidTests := true, laidLooks := .later }
def InumDividesUptoCardSaid : Prop := Claim7.holds Tryd.pinned (.plain (OpenSpec.upto inumDividesSpec)) inumDividesUptoCard

/-- THE SECOND FORM's CARD OF 'ratchetlaw03.InumOrders'. -/
def inumOrdersUptoCard : Claim7 := { stood := { row := inumOrdersUptoRow, standIns := [], harness := (true, "e7014158aaeb268ba1d52382904807baee33985fc7c020ed9b3ffb906d0b686b"), looks := false }, kinds := [], alts := [], laidByText := true, laidKinds := [.listed, .data], laidTests := true, laidLooks := .later }
def InumOrdersUptoCardSaid : Prop := Claim7.holds Tryd.pinned (.plain (OpenSpec.upto inumOrdersSpec)) inumOrdersUptoCard

/-- THE SECOND FORM's CARD OF 'ratchetlaw03.InumKnows'. -/
def inumKnowsUptoCard : Claim7 := { stood := { row := inumKnowsUptoRow, standIns := [], harness := (true, "e7014158aaeb268ba1d52382904807baee33985fc7c020ed9b3ffb906d0b686b"), looks := false }, kinds := [], alts := [], laidByText := true, laidKinds := [.listed, .data], laidTests := true, laidLooks := .later }
def InumKnowsUptoCardSaid : Prop := Claim7.holds Tryd.pinned (.plain (OpenSpec.upto inumKnowsSpec)) inumKnowsUptoCard

/-- THE SECOND FORM's CARD OF 'ratchetlaw03.InumUnary'. -/
def inumUnaryUptoCard : Claim7 := { stood := { row := inumUnaryUptoRow, standIns := [], harness := (true, "e7014158aaeb268ba1d52382904807baee33985fc7c020ed9b3ffb906d0b686b"), looks := false }, kinds := [], alts := [], laidByText := true, laidKinds := [.data, .data, .listed, .data], laidTests := true, laidLooks := .later }
def InumUnaryUptoCardSaid : Prop := Claim7.holds Tryd.pinned (.plain (OpenSpec.upto inumUnarySpec)) inumUnaryUptoCard

/-- THE SECOND FORM's CARD OF 'ratchetlaw03.InumTurns'. -/
def inumTurnsUptoCard : Claim7 := { stood := { row := inumTurnsUptoRow, standIns := [], harness := (true, "e7014158aaeb268ba1d52382904807baee33985fc7c020ed9b3ffb906d0b686b"), looks := false }, kinds := [], alts := [], laidByText := true, laidKinds := [.data, .data, .listed, .data], laidTests := true, laidLooks := .later }
def InumTurnsUptoCardSaid : Prop := Claim7.holds Tryd.pinned (.plain (OpenSpec.upto inumTurnsSpec)) inumTurnsUptoCard

/-- THE SECOND FORM's CARD OF 'ratchetlaw03.InumExtends'. -/
def inumExtendsUptoCard : Claim7 := { stood := { row := inumExtendsUptoRow, standIns := [], harness := (true, "e7014158aaeb268ba1d52382904807baee33985fc7c020ed9b3ffb906d0b686b"), looks := false }, kinds := [], alts := [], laidByText := true, laidKinds := [.data, .data, .listed, .data], laidTests := true, laidLooks := .later }
def InumExtendsUptoCardSaid : Prop := Claim7.holds Tryd.pinned (.plain (OpenSpec.upto inumExtendsSpec)) inumExtendsUptoCard
end Rows
end Go.Proofs.YtoegodeglgeomaaDoor
