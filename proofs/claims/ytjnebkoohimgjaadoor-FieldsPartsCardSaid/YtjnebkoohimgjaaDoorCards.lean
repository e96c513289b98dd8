/-
  DERIVED. GIVEN WITH THE SEED: THE CARDS: each row of YtjnebkoohimgjaaDoorRows.lean that lists a variable, with what it lists TIED to the program's text (the seventh form; the later family's looks); each row that meets fmt, with fmt's text TOLD by the authors' own Lean function (tested against real Go, not proved from fmt's source: count such statements apart). THE CARD IS WHAT COUNTS. Prove the row's statement (the work); the ties are given (YtjnebkoohimgjaaDoorTie.lean); close each card by the builder's one call (the guide's Derived/Test/ToyasCard.lean, 'card_holds'). Laid BY PROGRAM, IN A SANDBOX (cutbox-door.mjs). By AI agents, Wed Nov 11 2026. No macro, syntax, notation, axiom, sorry.
-/
import Derived.Test.YtjnebkoohimgjaaDoorRows
import GoSem.ClaimSeven
namespace Go.Proofs.YtjnebkoohimgjaaDoor
namespace Rows

/-- THE TIED CARD OF 'penstocklaw08.FieldsGrows'. -/
def fieldsGrowsCard : Claim7 := { stood := { row := fieldsGrowsRow, standIns := [], harness := (true, "be6948707e4f9148af3736926ba989f78ff0c12d6f712a49431bb4409ce264eb"), looks := false }, kinds := [], alts := [], laidByText := true, laidKinds := [.data, .pinned], laidTests := true, laidLooks := .later }
def FieldsGrowsCardSaid : Prop := Claim7.holds Tryd.pinned (.plain (OpenSpec.ofChange fieldsGrowsSpec)) fieldsGrowsCard

/-- THE TIED CARD OF 'penstocklaw08.FieldsParts'. -/
def fieldsPartsCard : Claim7 := { stood := { row := fieldsPartsRow, standIns := [], harness := (true, "be6948707e4f9148af3736926ba989f78ff0c12d6f712a49431bb4409ce264eb"), looks := false }, kinds := [], alts := [], laidByText := true, laidKinds := [.data, .pinned], laidTests := true, laidLooks := .later }
def FieldsPartsCardSaid : Prop := Claim7.holds Tryd.pinned (.plain (OpenSpec.ofChange fieldsPartsSpec)) fieldsPartsCard

/-- THE TIED CARD OF 'penstocklaw08.FieldsMakes'. -/
def fieldsMakesCard : Claim7 := { stood := { row := fieldsMakesRow, standIns := [], harness := (true, "be6948707e4f9148af3736926ba989f78ff0c12d6f712a49431bb4409ce264eb"), looks := false }, kinds := [], alts := [], laidByText := true, laidKinds := [.data, .pinned], laidTests := true, laidLooks := .later }
def FieldsMakesCardSaid : Prop := Claim7.holds Tryd.pinned (.plain (OpenSpec.ofChange fieldsMakesSpec)) fieldsMakesCard

/-- THE TIED CARD OF 'penstocklaw08.FieldsMeans'. -/
def fieldsMeansCard : Claim7 := { stood := { row := fieldsMeansRow, standIns := [], harness := (true, "be6948707e4f9148af3736926ba989f78ff0c12d6f712a49431bb4409ce264eb"), looks := false }, kinds := [], alts := [], laidByText := true, laidKinds := [.data, .pinned], laidTests := true, laidLooks := .later }
def FieldsMeansCardSaid : Prop := Claim7.holds Tryd.pinned (.plain (OpenSpec.ofChange fieldsMeansSpec)) fieldsMeansCard

/-- THE TIED CARD OF 'penstocklaw08.FieldsHolds'. -/
def fieldsHoldsCard : Claim7 := { stood := { row := fieldsHoldsRow, standIns := [], harness := (true, "be6948707e4f9148af3736926ba989f78ff0c12d6f712a49431bb4409ce264eb"), looks := false }, kinds := [], alts := [], laidByText := true, laidKinds := [.data, .pinned], laidTests := true, laidLooks := .later }
def FieldsHoldsCardSaid : Prop := Claim7.holds Tryd.pinned (.plain (OpenSpec.ofChange fieldsHoldsSpec)) fieldsHoldsCard

/-- THE TIED CARD OF 'penstocklaw08.FieldsChunks'. -/
def fieldsChunksCard : Claim7 := { stood := { row := fieldsChunksRow, standIns := [], harness := (true, "be6948707e4f9148af3736926ba989f78ff0c12d6f712a49431bb4409ce264eb"), looks := false }, kinds := [], alts := [], laidByText := true, laidKinds := [.data, .pinned], laidTests := true, laidLooks := .later }
def FieldsChunksCardSaid : Prop := Claim7.holds Tryd.pinned (.plain (OpenSpec.ofChange fieldsChunksSpec)) fieldsChunksCard

/-- THE SECOND FORM's CARD OF 'penstocklaw08.FieldsGrows'. -/
def fieldsGrowsUptoCard : Claim7 := { stood := { row := fieldsGrowsUptoRow, standIns := [], harness := (true, "be6948707e4f9148af3736926ba989f78ff0c12d6f712a49431bb4409ce264eb"), looks := false }, kinds := [], alts := [], laidByText := true, laidKinds := [.data, .pinned], laidTests := true, laidLooks := .later }
def FieldsGrowsUptoCardSaid : Prop := Claim7.holds Tryd.pinned (.plain (OpenSpec.upto fieldsGrowsSpec)) fieldsGrowsUptoCard

/-- THE SECOND FORM's CARD OF 'penstocklaw08.FieldsParts'. -/
def fieldsPartsUptoCard : Claim7 := { stood := { row := fieldsPartsUptoRow, standIns := [], harness := (true, "be6948707e4f9148af3736926ba989f78ff0c12d6f712a49431bb4409ce264eb"), looks := false }, kinds := [], alts := [], laidByText := true, laidKinds := [.data, .pinned], laidTests := true, laidLooks := .later }
def FieldsPartsUptoCardSaid : Prop := Claim7.holds Tryd.pinned (.plain (OpenSpec.upto fieldsPartsSpec)) fieldsPartsUptoCard

/-- THE SECOND FORM's CARD OF 'penstocklaw08.FieldsMakes'. -/
def fieldsMakesUptoCard : Claim7 := { stood := { row := fieldsMakesUptoRow, standIns := [], harness := (true, "be6948707e4f9148af3736926ba989f78ff0c12d6f712a49431bb4409ce264eb"), looks := false }, kinds := [], alts := [], laidByText := true, laidKinds := [.data, .pinned], laidTests := true, laidLooks := .later }
def FieldsMakesUptoCardSaid : Prop := Claim7.holds Tryd.pinned (.plain (OpenSpec.upto fieldsMakesSpec)) fieldsMakesUptoCard

/-- THE SECOND FORM's CARD OF 'penstocklaw08.FieldsMeans'. -/
def fieldsMeansUptoCard : Claim7 := { stood := { row := fieldsMeansUptoRow, standIns := [], harness := (true, "be6948707e4f9148af3736926ba989f78ff0c12d6f712a49431bb4409ce264eb"), looks := false }, kinds := [], alts := [], laidByText := true, laidKinds := [.data, .pinned], laidTests := true, laidLooks := .later }
def FieldsMeansUptoCardSaid : Prop := Claim7.holds Tryd.pinned (.plain (OpenSpec.upto fieldsMeansSpec)) fieldsMeansUptoCard

/-- THE SECOND FORM's CARD OF 'penstocklaw08.FieldsHolds'. -/
def fieldsHoldsUptoCard : Claim7 := { stood := { row := fieldsHoldsUptoRow, standIns := [], harness := (true, "be6948707e4f9148af3736926ba989f78ff0c12d6f712a49431bb4409ce264eb"), looks := false }, kinds := [], alts := [], laidByText := true, laidKinds := [.data, .pinned], laidTests := true, laidLooks := .later }
def FieldsHoldsUptoCardSaid : Prop := Claim7.holds Tryd.pinned (.plain (OpenSpec.upto fieldsHoldsSpec)) fieldsHoldsUptoCard

/-- THE SECOND FORM's CARD OF 'penstocklaw08.FieldsChunks'. -/
def fieldsChunksUptoCard : Claim7 := { stood := { row := fieldsChunksUptoRow, standIns := [], harness := (true, "be6948707e4f9148af3736926ba989f78ff0c12d6f712a49431bb4409ce264eb"), looks := false }, kinds := [], alts := [], laidByText := true, laidKinds := [.data, .pinned], laidTests := true, laidLooks := .later }
def FieldsChunksUptoCardSaid : Prop := Claim7.holds Tryd.pinned (.plain (OpenSpec.upto fieldsChunksSpec)) fieldsChunksUptoCard
end Rows
end Go.Proofs.YtjnebkoohimgjaaDoor
