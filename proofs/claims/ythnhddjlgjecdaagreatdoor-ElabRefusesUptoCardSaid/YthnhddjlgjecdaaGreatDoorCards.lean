/-
  DERIVED. GIVEN WITH THE SEED: THE CARDS: each row of YthnhddjlgjecdaaGreatDoorRows.lean that lists a variable, with what it lists TIED to the program's text (the seventh form; the later family's looks); each row that meets fmt, with fmt's text TOLD by the authors' own Lean function (tested against real Go, not proved from fmt's source: count such statements apart). THE CARD IS WHAT COUNTS. Prove the row's statement (the work); the ties are given (YthnhddjlgjecdaaGreatDoorTie.lean); close each card by the builder's one call (the guide's Derived/Test/ToyasCard.lean, 'card_holds'). Laid BY PROGRAM, IN A SANDBOX (cutbox-door.mjs). By AI agents, Wed Nov 11 2026. No macro, syntax, notation, axiom, sorry.
-/
import Derived.Test.YthnhddjlgjecdaaGreatDoorRows
import GoSem.ClaimSeven
namespace Go.Proofs.YthnhddjlgjecdaaGreatDoor
namespace Rows

/-- THE TIED CARD OF 'chancellaw09.ElabTells'. -/
def elabTellsCard : Claim7 := { stood := { row := elabTellsRow, standIns := [], harness := (true, "391d825e3814b073872302406550c336d8abc6d365b968e11c02e3b03d9343bb"), looks := true }, kinds := [], alts := [], laidByText := true, laidKinds := [.data, .data, .data, .widerDeep, .data, .widerDeep], laidTests := true, laidLooks := .later }
def ElabTellsCardSaid : Prop := Claim7.holds Tryz.pinned (.plain (OpenSpec.ofChange elabTellsSpec)) elabTellsCard

/-- THE TIED CARD OF 'chancellaw09.ElabMeets'. -/
def elabMeetsCard : Claim7 := { stood := { row := elabMeetsRow, standIns := [], harness := (true, "391d825e3814b073872302406550c336d8abc6d365b968e11c02e3b03d9343bb"), looks := true }, kinds := [], alts := [], laidByText := true, laidKinds := [.data, .data, .data, .widerDeep, .data, .widerDeep], laidTests := true, laidLooks := .later }
def ElabMeetsCardSaid : Prop := Claim7.holds Tryz.pinned (.plain (OpenSpec.ofChange elabMeetsSpec)) elabMeetsCard

/-- THE TIED CARD OF 'chancellaw09.ElabNames'. -/
def elabNamesCard : Claim7 := { stood := { row := elabNamesRow, standIns := [], harness := (true, "391d825e3814b073872302406550c336d8abc6d365b968e11c02e3b03d9343bb"), looks := true }, kinds := [], alts := [], laidByText := true, laidKinds := [.data, .data, .data, .widerDeep, .data, .widerDeep], laidTests := true, laidLooks := .later }
def ElabNamesCardSaid : Prop := Claim7.holds Tryz.pinned (.plain (OpenSpec.ofChange elabNamesSpec)) elabNamesCard

/-- THE TIED CARD OF 'chancellaw09.ElabWell'. -/
def elabWellCard : Claim7 := { stood := { row := elabWellRow, standIns := [], harness := (true, "391d825e3814b073872302406550c336d8abc6d365b968e11c02e3b03d9343bb"), looks := true }, kinds := [], alts := [], laidByText := true, laidKinds := [.data, .data, .data, .widerDeep, .data, .widerDeep], laidTests := true, laidLooks := .later }
def ElabWellCardSaid : Prop := Claim7.holds Tryz.pinned (.plain (OpenSpec.ofChange elabWellSpec)) elabWellCard

/-- THE TIED CARD OF 'chancellaw09.ElabRefuses'. -/
def elabRefusesCard : Claim7 := { stood := { row := elabRefusesRow, standIns := [], harness := (true, "391d825e3814b073872302406550c336d8abc6d365b968e11c02e3b03d9343bb"), looks := true }, kinds := [], alts := [], laidByText := true, laidKinds := [.data, .data, .data, .widerDeep, .data, .widerDeep], laidTests := true, laidLooks := .later }
def ElabRefusesCardSaid : Prop := Claim7.holds Tryz.pinned (.plain (OpenSpec.ofChange elabRefusesSpec)) elabRefusesCard

/-- THE TIED CARD OF 'chancellaw09.ElabBare'. -/
def elabBareCard : Claim7 := { stood := { row := elabBareRow, standIns := [], harness := (true, "391d825e3814b073872302406550c336d8abc6d365b968e11c02e3b03d9343bb"), looks := true }, kinds := [], alts := [], laidByText := true, laidKinds := [.data, .data, .data, .widerDeep, .data, .widerDeep], laidTests := true, laidLooks := .later }
def ElabBareCardSaid : Prop := Claim7.holds Tryz.pinned (.plain (OpenSpec.ofChange elabBareSpec)) elabBareCard

/-- THE TIED CARD OF 'chancellaw19.EvalShaped'. -/
def evalShapedCard : Claim7 := { stood := { row := evalShapedRow, standIns := [], harness := (true, "391d825e3814b073872302406550c336d8abc6d365b968e11c02e3b03d9343bb"), looks := true }, kinds := [], alts := [], laidByText := true, laidKinds := [.data, .data, .data, .widerDeep, .data, .widerDeep, .data], laidTests := true, laidLooks := .later }
def EvalShapedCardSaid : Prop := Claim7.holds Tryz.pinned (.plain (OpenSpec.ofChange evalShapedSpec)) evalShapedCard

/-- THE SECOND FORM's CARD OF 'chancellaw09.ElabTells'. -/
def elabTellsUptoCard : Claim7 := { stood := { row := elabTellsUptoRow, standIns := [], harness := (true, "391d825e3814b073872302406550c336d8abc6d365b968e11c02e3b03d9343bb"), looks := true }, kinds := [], alts := [], laidByText := true, laidKinds := [.data, .data, .data, .widerDeep, .data, .widerDeep], laidTests := true, laidLooks := .later }
def ElabTellsUptoCardSaid : Prop := Claim7.holds Tryz.pinned (.plain (OpenSpec.upto elabTellsSpec)) elabTellsUptoCard

/-- THE SECOND FORM's CARD OF 'chancellaw09.ElabMeets'. -/
def elabMeetsUptoCard : Claim7 := { stood := { row := elabMeetsUptoRow, standIns := [], harness := (true, "391d825e3814b073872302406550c336d8abc6d365b968e11c02e3b03d9343bb"), looks := true }, kinds := [], alts := [], laidByText := true, laidKinds := [.data, .data, .data, .widerDeep, .data, .widerDeep], laidTests := true, laidLooks := .later }
def ElabMeetsUptoCardSaid : Prop := Claim7.holds Tryz.pinned (.plain (OpenSpec.upto elabMeetsSpec)) elabMeetsUptoCard

/-- THE SECOND FORM's CARD OF 'chancellaw09.ElabNames'. -/
def elabNamesUptoCard : Claim7 := { stood := { row := elabNamesUptoRow, standIns := [], harness := (true, "391d825e3814b073872302406550c336d8abc6d365b968e11c02e3b03d9343bb"), looks := true }, kinds := [], alts := [], laidByText := true, laidKinds := [.data, .data, .data, .widerDeep, .data, .widerDeep], laidTests := true, laidLooks := .later }
def ElabNamesUptoCardSaid : Prop := Claim7.holds Tryz.pinned (.plain (OpenSpec.upto elabNamesSpec)) elabNamesUptoCard

/-- THE SECOND FORM's CARD OF 'chancellaw09.ElabWell'. -/
def elabWellUptoCard : Claim7 := { stood := { row := elabWellUptoRow, standIns := [], harness := (true, "391d825e3814b073872302406550c336d8abc6d365b968e11c02e3b03d9343bb"), looks := true }, kinds := [], alts := [], laidByText := true, laidKinds := [.data, .data, .data, .widerDeep, .data, .widerDeep], laidTests := true, laidLooks := .later }
def ElabWellUptoCardSaid : Prop := Claim7.holds Tryz.pinned (.plain (OpenSpec.upto elabWellSpec)) elabWellUptoCard

/-- THE SECOND FORM's CARD OF 'chancellaw09.ElabRefuses'. -/
def elabRefusesUptoCard : Claim7 := { stood := { row := elabRefusesUptoRow, standIns := [], harness := (true, "391d825e3814b073872302406550c336d8abc6d365b968e11c02e3b03d9343bb"), looks := true }, kinds := [], alts := [], laidByText := true, laidKinds := [.data, .data, .data, .widerDeep, .data, .widerDeep], laidTests := true, laidLooks := .later }
def ElabRefusesUptoCardSaid : Prop := Claim7.holds Tryz.pinned (.plain (OpenSpec.upto elabRefusesSpec)) elabRefusesUptoCard

/-- THE SECOND FORM's CARD OF 'chancellaw09.ElabBare'. -/
def elabBareUptoCard : Claim7 := { stood := { row := elabBareUptoRow, standIns := [], harness := (true, "391d825e3814b073872302406550c336d8abc6d365b968e11c02e3b03d9343bb"), looks := true }, kinds := [], alts := [], laidByText := true, laidKinds := [.data, .data, .data, .widerDeep, .data, .widerDeep], laidTests := true, laidLooks := .later }
def ElabBareUptoCardSaid : Prop := Claim7.holds Tryz.pinned (.plain (OpenSpec.upto elabBareSpec)) elabBareUptoCard

/-- THE SECOND FORM's CARD OF 'chancellaw19.EvalShaped'. -/
def evalShapedUptoCard : Claim7 := { stood := { row := evalShapedUptoRow, standIns := [], harness := (true, "391d825e3814b073872302406550c336d8abc6d365b968e11c02e3b03d9343bb"), looks := true }, kinds := [], alts := [], laidByText := true, laidKinds := [.data, .data, .data, .widerDeep, .data, .widerDeep, .data], laidTests := true, laidLooks := .later }
def EvalShapedUptoCardSaid : Prop := Claim7.holds Tryz.pinned (.plain (OpenSpec.upto evalShapedSpec)) evalShapedUptoCard
end Rows
end Go.Proofs.YthnhddjlgjecdaaGreatDoor
