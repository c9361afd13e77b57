/-
  DERIVED. GIVEN WITH THE SEED: THE CARDS: each row of YtpmnjjmngogkkaaGreatDoorRows.lean that lists a variable, with what it lists TIED to the program's text (the seventh form; the later family's looks); each row that meets fmt, with fmt's text TOLD by the authors' own Lean function (tested against real Go, not proved from fmt's source: count such statements apart). THE CARD IS WHAT COUNTS. Prove the row's statement (the work); the ties are given (YtpmnjjmngogkkaaGreatDoorTie.lean); close each card by the builder's one call (the guide's Derived/Test/ToyasCard.lean, 'card_holds'). Laid BY PROGRAM, IN A SANDBOX (cutbox-door.mjs). By AI agents, Wed Nov 11 2026. No macro, syntax, notation, axiom, sorry.
-/
import Derived.Test.YtpmnjjmngogkkaaGreatDoorRows
import GoSem.ClaimSeven
namespace Go.Proofs.YtpmnjjmngogkkaaGreatDoor
namespace Rows

/-- THE TIED CARD OF 'rabbetlaw01.FracMakes'. -/
def fracMakesCard : Claim7 := { stood := { row := fracMakesRow, standIns := [], harness := (true, "650b10b7f83fe311f89b80045fa31e214c315223ee2619adf08cc50f1eb5f2c2"), looks := true }, kinds := [], alts := [], laidByText := true, laidKinds := [.data, .data, .data], laidTests := true, laidLooks := .later }
def FracMakesCardSaid : Prop := Claim7.holds Tryz.pinned (.plain (OpenSpec.ofChange fracMakesSpec)) fracMakesCard

/-- THE TIED CARD OF 'rabbetlaw01.FracWholes'. -/
def fracWholesCard : Claim7 := { stood := { row := fracWholesRow, standIns := [], harness := (true, "650b10b7f83fe311f89b80045fa31e214c315223ee2619adf08cc50f1eb5f2c2"), looks := true }, kinds := [], alts := [], laidByText := true, laidKinds := [.data, .data, .data, .data, .sentinel, .sentinel, .pinned], laidTests := true, laidLooks := .later }
def FracWholesCardSaid : Prop := Claim7.holds Tryz.pinned (.plain (OpenSpec.ofChange fracWholesSpec)) fracWholesCard

/-- THE TIED CARD OF 'rabbetlaw01.FracParts'. -/
def fracPartsCard : Claim7 := { stood := { row := fracPartsRow, standIns := [], harness := (true, "650b10b7f83fe311f89b80045fa31e214c315223ee2619adf08cc50f1eb5f2c2"), looks := true }, kinds := [], alts := [], laidByText := true, laidKinds := [.data, .data, .data, .data, .sentinel, .sentinel, .pinned], laidTests := true, laidLooks := .later }
def FracPartsCardSaid : Prop := Claim7.holds Tryz.pinned (.plain (OpenSpec.ofChange fracPartsSpec)) fracPartsCard

/-- THE TIED CARD OF 'rabbetlaw01.FracSizes'. -/
def fracSizesCard : Claim7 := { stood := { row := fracSizesRow, standIns := [], harness := (true, "650b10b7f83fe311f89b80045fa31e214c315223ee2619adf08cc50f1eb5f2c2"), looks := true }, kinds := [], alts := [], laidByText := true, laidKinds := [.data, .data, .data, .data, .sentinel, .sentinel, .pinned], laidTests := true, laidLooks := .later }
def FracSizesCardSaid : Prop := Claim7.holds Tryz.pinned (.plain (OpenSpec.ofChange fracSizesSpec)) fracSizesCard

/-- THE TIED CARD OF 'rabbetlaw01.FracLaws'. -/
def fracLawsCard : Claim7 := { stood := { row := fracLawsRow, standIns := [], harness := (true, "650b10b7f83fe311f89b80045fa31e214c315223ee2619adf08cc50f1eb5f2c2"), looks := true }, kinds := [], alts := [], laidByText := true, laidKinds := [.data, .data, .data, .data, .sentinel, .sentinel, .pinned], laidTests := true, laidLooks := .later }
def FracLawsCardSaid : Prop := Claim7.holds Tryz.pinned (.plain (OpenSpec.ofChange fracLawsSpec)) fracLawsCard

/-- THE TIED CARD OF 'rabbetlaw01.FracReads'. -/
def fracReadsCard : Claim7 := { stood := { row := fracReadsRow, standIns := [], harness := (true, "650b10b7f83fe311f89b80045fa31e214c315223ee2619adf08cc50f1eb5f2c2"), looks := true }, kinds := [], alts := [], laidByText := true, laidKinds := [.data, .data, .data, .data, .sentinel, .sentinel, .pinned], laidTests := true, laidLooks := .later }
def FracReadsCardSaid : Prop := Claim7.holds Tryz.pinned (.plain (OpenSpec.ofChange fracReadsSpec)) fracReadsCard

/-- THE TIED CARD OF 'rabbetlaw01.FracDets'. -/
def fracDetsCard : Claim7 := { stood := { row := fracDetsRow, standIns := [], harness := (true, "650b10b7f83fe311f89b80045fa31e214c315223ee2619adf08cc50f1eb5f2c2"), looks := true }, kinds := [], alts := [], laidByText := true, laidKinds := [.data, .data, .data, .data, .sentinel, .sentinel, .pinned], laidTests := true, laidLooks := .later }
def FracDetsCardSaid : Prop := Claim7.holds Tryz.pinned (.plain (OpenSpec.ofChange fracDetsSpec)) fracDetsCard

/-- THE TIED CARD OF 'rabbetlaw01.FracJudges'. -/
def fracJudgesCard : Claim7 := { stood := { row := fracJudgesRow, standIns := [], harness := (true, "650b10b7f83fe311f89b80045fa31e214c315223ee2619adf08cc50f1eb5f2c2"), looks := true }, kinds := [], alts := [], laidByText := true, laidKinds := [.data, .data, .data, .data, .sentinel, .sentinel, .pinned], laidTests := true, laidLooks := .later }
def FracJudgesCardSaid : Prop := Claim7.holds Tryz.pinned (.plain (OpenSpec.ofChange fracJudgesSpec)) fracJudgesCard

/-- THE TIED CARD OF 'rabbetlaw01.FracSolves'. -/
def fracSolvesCard : Claim7 := { stood := { row := fracSolvesRow, standIns := [], harness := (true, "650b10b7f83fe311f89b80045fa31e214c315223ee2619adf08cc50f1eb5f2c2"), looks := true }, kinds := [], alts := [], laidByText := true, laidKinds := [.data, .data, .data, .data, .sentinel, .sentinel, .pinned], laidTests := true, laidLooks := .later }
def FracSolvesCardSaid : Prop := Claim7.holds Tryz.pinned (.plain (OpenSpec.ofChange fracSolvesSpec)) fracSolvesCard

/-- THE SECOND FORM's CARD OF 'rabbetlaw01.FracMakes'. -/
def fracMakesUptoCard : Claim7 := { stood := { row := fracMakesUptoRow, standIns := [], harness := (true, "650b10b7f83fe311f89b80045fa31e214c315223ee2619adf08cc50f1eb5f2c2"), looks := true }, kinds := [], alts := [], laidByText := true, laidKinds := [.data, .data, .data], laidTests := true, laidLooks := .later }
def FracMakesUptoCardSaid : Prop := Claim7.holds Tryz.pinned (.plain (OpenSpec.upto fracMakesSpec)) fracMakesUptoCard

/-- THE SECOND FORM's CARD OF 'rabbetlaw01.FracWholes'. -/
def fracWholesUptoCard : Claim7 := { stood := { row := fracWholesUptoRow, standIns := [], harness := (true, "650b10b7f83fe311f89b80045fa31e214c315223ee2619adf08cc50f1eb5f2c2"), looks := true }, kinds := [], alts := [], laidByText := true, laidKinds := [.data, .data, .data, .data, .sentinel, .sentinel, .pinned], laidTests := true, laidLooks := .later }
def FracWholesUptoCardSaid : Prop := Claim7.holds Tryz.pinned (.plain (OpenSpec.upto fracWholesSpec)) fracWholesUptoCard

/-- THE SECOND FORM's CARD OF 'rabbetlaw01.FracParts'. -/
def fracPartsUptoCard : Claim7 := { stood := { row := fracPartsUptoRow, standIns := [], harness := (true, "650b10b7f83fe311f89b80045fa31e214c315223ee2619adf08cc50f1eb5f2c2"), looks := true }, kinds := [], alts := [], laidByText := true, laidKinds := [.data, .data, .data, .data, .sentinel, .sentinel, .pinned], laidTests := true, laidLooks := .later }
def FracPartsUptoCardSaid : Prop := Claim7.holds Tryz.pinned (.plain (OpenSpec.upto fracPartsSpec)) fracPartsUptoCard

/-- THE SECOND FORM's CARD OF 'rabbetlaw01.FracSizes'. -/
def fracSizesUptoCard : Claim7 := { stood := { row := fracSizesUptoRow, standIns := [], harness := (true, "650b10b7f83fe311f89b80045fa31e214c315223ee2619adf08cc50f1eb5f2c2"), looks := true }, kinds := [], alts := [], laidByText := true, laidKinds := [.data, .data, .data, .data, .sentinel, .sentinel, .pinned], laidTests := true, laidLooks := .later }
def FracSizesUptoCardSaid : Prop := Claim7.holds Tryz.pinned (.plain (OpenSpec.upto fracSizesSpec)) fracSizesUptoCard

/-- THE SECOND FORM's CARD OF 'rabbetlaw01.FracLaws'. -/
def fracLawsUptoCard : Claim7 := { stood := { row := fracLawsUptoRow, standIns := [], harness := (true, "650b10b7f83fe311f89b80045fa31e214c315223ee2619adf08cc50f1eb5f2c2"), looks := true }, kinds := [], alts := [], laidByText := true, laidKinds := [.data, .data, .data, .data, .sentinel, .sentinel, .pinned], laidTests := true, laidLooks := .later }
def FracLawsUptoCardSaid : Prop := Claim7.holds Tryz.pinned (.plain (OpenSpec.upto fracLawsSpec)) fracLawsUptoCard

/-- THE SECOND FORM's CARD OF 'rabbetlaw01.FracReads'. -/
def fracReadsUptoCard : Claim7 := { stood := { row := fracReadsUptoRow, standIns := [], harness := (true, "650b10b7f83fe311f89b80045fa31e214c315223ee2619adf08cc50f1eb5f2c2"), looks := true }, kinds := [], alts := [], laidByText := true, laidKinds := [.data, .data, .data, .data, .sentinel, .sentinel, .pinned], laidTests := true, laidLooks := .later }
def FracReadsUptoCardSaid : Prop := Claim7.holds Tryz.pinned (.plain (OpenSpec.upto fracReadsSpec)) fracReadsUptoCard

/-- THE SECOND FORM's CARD OF 'rabbetlaw01.FracDets'. -/
def fracDetsUptoCard : Claim7 := { stood := { row := fracDetsUptoRow, standIns := [], harness := (true, "650b10b7f83fe311f89b80045fa31e214c315223ee2619adf08cc50f1eb5f2c2"), looks := true }, kinds := [], alts := [], laidByText := true, laidKinds := [.data, .data, .data, .data, .sentinel, .sentinel, .pinned], laidTests := true, laidLooks := .later }
def FracDetsUptoCardSaid : Prop := Claim7.holds Tryz.pinned (.plain (OpenSpec.upto fracDetsSpec)) fracDetsUptoCard

/-- THE SECOND FORM's CARD OF 'rabbetlaw01.FracJudges'. -/
def fracJudgesUptoCard : Claim7 := { stood := { row := fracJudgesUptoRow, standIns := [], harness := (true, "650b10b7f83fe311f89b80045fa31e214c315223ee2619adf08cc50f1eb5f2c2"), looks := true }, kinds := [], alts := [], laidByText := true, laidKinds := [.data, .data, .data, .data, .sentinel, .sentinel, .pinned], laidTests := true, laidLooks := .later }
def FracJudgesUptoCardSaid : Prop := Claim7.holds Tryz.pinned (.plain (OpenSpec.upto fracJudgesSpec)) fracJudgesUptoCard

/-- THE SECOND FORM's CARD OF 'rabbetlaw01.FracSolves'. -/
def fracSolvesUptoCard : Claim7 := { stood := { row := fracSolvesUptoRow, standIns := [], harness := (true, "650b10b7f83fe311f89b80045fa31e214c315223ee2619adf08cc50f1eb5f2c2"), looks := true }, kinds := [], alts := [], laidByText := true, laidKinds := [.data, .data, .data, .data, .sentinel, .sentinel, .pinned], laidTests := true, laidLooks := .later }
def FracSolvesUptoCardSaid : Prop := Claim7.holds Tryz.pinned (.plain (OpenSpec.upto fracSolvesSpec)) fracSolvesUptoCard
end Rows
end Go.Proofs.YtpmnjjmngogkkaaGreatDoor
