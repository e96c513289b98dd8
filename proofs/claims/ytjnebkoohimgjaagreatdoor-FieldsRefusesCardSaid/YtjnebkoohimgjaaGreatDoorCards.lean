/-
  DERIVED. GIVEN WITH THE SEED: THE CARDS: each row of YtjnebkoohimgjaaGreatDoorRows.lean that lists a variable, with what it lists TIED to the program's text (the seventh form; the later family's looks); each row that meets fmt, with fmt's text TOLD by the authors' own Lean function (tested against real Go, not proved from fmt's source: count such statements apart). THE CARD IS WHAT COUNTS. Prove the row's statement (the work); the ties are given (YtjnebkoohimgjaaGreatDoorTie.lean); close each card by the builder's one call (the guide's Derived/Test/ToyasCard.lean, 'card_holds'). Laid BY PROGRAM, IN A SANDBOX (cutbox-door.mjs). By AI agents, Wed Nov 11 2026. No macro, syntax, notation, axiom, sorry.
-/
import Derived.Test.YtjnebkoohimgjaaGreatDoorRows
import GoSem.ClaimSeven
namespace Go.Proofs.YtjnebkoohimgjaaGreatDoor
namespace Rows

/-- THE TIED CARD OF 'penstocklaw08.FieldsRefuses'. -/
def fieldsRefusesCard : Claim7 := { stood := { row := fieldsRefusesRow, standIns := [], harness := (true, "87a5d77a370daac97c06a8845e9fefdaaf96ab935cae53efdbbabceeed974731"), looks := false }, kinds := [], alts := [], laidByText := true, laidKinds := [.data, .pinned], laidTests := true, laidLooks := .later }
def FieldsRefusesCardSaid : Prop := Claim7.holds Tryz.pinned (.plain (OpenSpec.ofChange fieldsRefusesSpec)) fieldsRefusesCard

/-- THE SECOND FORM's CARD OF 'penstocklaw08.FieldsRefuses'. -/
def fieldsRefusesUptoCard : Claim7 := { stood := { row := fieldsRefusesUptoRow, standIns := [], harness := (true, "87a5d77a370daac97c06a8845e9fefdaaf96ab935cae53efdbbabceeed974731"), looks := false }, kinds := [], alts := [], laidByText := true, laidKinds := [.data, .pinned], laidTests := true, laidLooks := .later }
def FieldsRefusesUptoCardSaid : Prop := Claim7.holds Tryz.pinned (.plain (OpenSpec.upto fieldsRefusesSpec)) fieldsRefusesUptoCard
end Rows
end Go.Proofs.YtjnebkoohimgjaaGreatDoor
