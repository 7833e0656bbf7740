/-
  DERIVED. GIVEN WITH THE SEED: THE CARDS: each row of YtindlieilabgfaaGreatDoorRows.lean that lists a variable, with what it lists TIED to the program's text (the seventh form; the later family's looks); each row that meets fmt, with fmt's text TOLD by the authors' own Lean function (tested against real Go, not proved from fmt's source: count such statements apart). THE CARD IS WHAT COUNTS. Prove the row's statement (the work); the ties are given (YtindlieilabgfaaGreatDoorTie.lean); close each card by the builder's one call (the guide's Derived/Test/ToyasCard.lean, 'card_holds'). Laid BY PROGRAM, IN A SANDBOX (cutbox-door.mjs). By AI agents, Wed Nov 11 2026. No macro, syntax, notation, axiom, sorry.
-/
import Derived.Test.YtindlieilabgfaaGreatDoorRows
import GoSem.ClaimSeven
namespace Go.Proofs.YtindlieilabgfaaGreatDoor
namespace Rows

/-- THE TIED CARD OF 'chancellaw07.ScopeTells'. -/
def scopeTellsCard : Claim7 := { stood := { row := scopeTellsRow, standIns := [], harness := (true, "2ce49ab949ddc076bb9b240d530b1b210dd49c57ca97a8fe96dfaef2891b8a42"), looks := true }, kinds := [], alts := [], laidByText := true, laidKinds := [.data, .data, .data, .widerDeep, .data, .widerDeep], laidTests := true, laidLooks := .later }
def ScopeTellsCardSaid : Prop := Claim7.holds Tryz.pinned (.plain (OpenSpec.ofChange scopeTellsSpec)) scopeTellsCard

/-- THE TIED CARD OF 'chancellaw07.ScopeApart'. -/
def scopeApartCard : Claim7 := { stood := { row := scopeApartRow, standIns := [], harness := (true, "2ce49ab949ddc076bb9b240d530b1b210dd49c57ca97a8fe96dfaef2891b8a42"), looks := true }, kinds := [], alts := [], laidByText := true, laidKinds := [.data, .data, .data, .widerDeep, .data, .widerDeep], laidTests := true, laidLooks := .later }
def ScopeApartCardSaid : Prop := Claim7.holds Tryz.pinned (.plain (OpenSpec.ofChange scopeApartSpec)) scopeApartCard

/-- THE TIED CARD OF 'chancellaw07.ScopeKeeps'. -/
def scopeKeepsCard : Claim7 := { stood := { row := scopeKeepsRow, standIns := [], harness := (true, "2ce49ab949ddc076bb9b240d530b1b210dd49c57ca97a8fe96dfaef2891b8a42"), looks := true }, kinds := [], alts := [], laidByText := true, laidKinds := [.data, .data, .data, .widerDeep, .data, .widerDeep], laidTests := true, laidLooks := .later }
def ScopeKeepsCardSaid : Prop := Claim7.holds Tryz.pinned (.plain (OpenSpec.ofChange scopeKeepsSpec)) scopeKeepsCard

/-- THE TIED CARD OF 'chancellaw07.ScopeAlike'. -/
def scopeAlikeCard : Claim7 := { stood := { row := scopeAlikeRow, standIns := [], harness := (true, "2ce49ab949ddc076bb9b240d530b1b210dd49c57ca97a8fe96dfaef2891b8a42"), looks := true }, kinds := [], alts := [], laidByText := true, laidKinds := [.data, .data, .data, .widerDeep, .data, .widerDeep], laidTests := true, laidLooks := .later }
def ScopeAlikeCardSaid : Prop := Claim7.holds Tryz.pinned (.plain (OpenSpec.ofChange scopeAlikeSpec)) scopeAlikeCard

/-- THE TIED CARD OF 'chancellaw07.ScopeGoes'. -/
def scopeGoesCard : Claim7 := { stood := { row := scopeGoesRow, standIns := [], harness := (true, "2ce49ab949ddc076bb9b240d530b1b210dd49c57ca97a8fe96dfaef2891b8a42"), looks := true }, kinds := [], alts := [], laidByText := true, laidKinds := [.data, .data, .data, .widerDeep, .data, .widerDeep], laidTests := true, laidLooks := .later }
def ScopeGoesCardSaid : Prop := Claim7.holds Tryz.pinned (.plain (OpenSpec.ofChange scopeGoesSpec)) scopeGoesCard

/-- THE TIED CARD OF 'chancellaw07.ScopeResolves'. -/
def scopeResolvesCard : Claim7 := { stood := { row := scopeResolvesRow, standIns := [], harness := (true, "2ce49ab949ddc076bb9b240d530b1b210dd49c57ca97a8fe96dfaef2891b8a42"), looks := true }, kinds := [], alts := [], laidByText := true, laidKinds := [.data, .data, .data, .widerDeep, .data, .widerDeep], laidTests := true, laidLooks := .later }
def ScopeResolvesCardSaid : Prop := Claim7.holds Tryz.pinned (.plain (OpenSpec.ofChange scopeResolvesSpec)) scopeResolvesCard

/-- THE SECOND FORM's CARD OF 'chancellaw07.ScopeTells'. -/
def scopeTellsUptoCard : Claim7 := { stood := { row := scopeTellsUptoRow, standIns := [], harness := (true, "2ce49ab949ddc076bb9b240d530b1b210dd49c57ca97a8fe96dfaef2891b8a42"), looks := true }, kinds := [], alts := [], laidByText := true, laidKinds := [.data, .data, .data, .widerDeep, .data, .widerDeep], laidTests := true, laidLooks := .later }
def ScopeTellsUptoCardSaid : Prop := Claim7.holds Tryz.pinned (.plain (OpenSpec.upto scopeTellsSpec)) scopeTellsUptoCard

/-- THE SECOND FORM's CARD OF 'chancellaw07.ScopeApart'. -/
def scopeApartUptoCard : Claim7 := { stood := { row := scopeApartUptoRow, standIns := [], harness := (true, "2ce49ab949ddc076bb9b240d530b1b210dd49c57ca97a8fe96dfaef2891b8a42"), looks := true }, kinds := [], alts := [], laidByText := true, laidKinds := [.data, .data, .data, .widerDeep, .data, .widerDeep], laidTests := true, laidLooks := .later }
def ScopeApartUptoCardSaid : Prop := Claim7.holds Tryz.pinned (.plain (OpenSpec.upto scopeApartSpec)) scopeApartUptoCard

/-- THE SECOND FORM's CARD OF 'chancellaw07.ScopeKeeps'. -/
def scopeKeepsUptoCard : Claim7 := { stood := { row := scopeKeepsUptoRow, standIns := [], harness := (true, "2ce49ab949ddc076bb9b240d530b1b210dd49c57ca97a8fe96dfaef2891b8a42"), looks := true }, kinds := [], alts := [], laidByText := true, laidKinds := [.data, .data, .data, .widerDeep, .data, .widerDeep], laidTests := true, laidLooks := .later }
def ScopeKeepsUptoCardSaid : Prop := Claim7.holds Tryz.pinned (.plain (OpenSpec.upto scopeKeepsSpec)) scopeKeepsUptoCard

/-- THE SECOND FORM's CARD OF 'chancellaw07.ScopeAlike'. -/
def scopeAlikeUptoCard : Claim7 := { stood := { row := scopeAlikeUptoRow, standIns := [], harness := (true, "2ce49ab949ddc076bb9b240d530b1b210dd49c57ca97a8fe96dfaef2891b8a42"), looks := true }, kinds := [], alts := [], laidByText := true, laidKinds := [.data, .data, .data, .widerDeep, .data, .widerDeep], laidTests := true, laidLooks := .later }
def ScopeAlikeUptoCardSaid : Prop := Claim7.holds Tryz.pinned (.plain (OpenSpec.upto scopeAlikeSpec)) scopeAlikeUptoCard

/-- THE SECOND FORM's CARD OF 'chancellaw07.ScopeGoes'. -/
def scopeGoesUptoCard : Claim7 := { stood := { row := scopeGoesUptoRow, standIns := [], harness := (true, "2ce49ab949ddc076bb9b240d530b1b210dd49c57ca97a8fe96dfaef2891b8a42"), looks := true }, kinds := [], alts := [], laidByText := true, laidKinds := [.data, .data, .data, .widerDeep, .data, .widerDeep], laidTests := true, laidLooks := .later }
def ScopeGoesUptoCardSaid : Prop := Claim7.holds Tryz.pinned (.plain (OpenSpec.upto scopeGoesSpec)) scopeGoesUptoCard

/-- THE SECOND FORM's CARD OF 'chancellaw07.ScopeResolves'. -/
def scopeResolvesUptoCard : Claim7 := { stood := { row := scopeResolvesUptoRow, standIns := [], harness := (true, "2ce49ab949ddc076bb9b240d530b1b210dd49c57ca97a8fe96dfaef2891b8a42"), looks := true }, kinds := [], alts := [], laidByText := true, laidKinds := [.data, .data, .data, .widerDeep, .data, .widerDeep], laidTests := true, laidLooks := .later }
def ScopeResolvesUptoCardSaid : Prop := Claim7.holds Tryz.pinned (.plain (OpenSpec.upto scopeResolvesSpec)) scopeResolvesUptoCard
end Rows
end Go.Proofs.YtindlieilabgfaaGreatDoor
