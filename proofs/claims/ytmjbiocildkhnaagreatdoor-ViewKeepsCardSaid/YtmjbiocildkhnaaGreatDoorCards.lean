/-
  DERIVED. GIVEN WITH THE SEED: THE CARDS: each row of YtmjbiocildkhnaaGreatDoorRows.lean that lists a variable, with what it lists TIED to the program's text (the seventh form; the later family's looks); each row that meets fmt, with fmt's text TOLD by the authors' own Lean function (tested against real Go, not proved from fmt's source: count such statements apart). THE CARD IS WHAT COUNTS. Prove the row's statement (the work); the ties are given (YtmjbiocildkhnaaGreatDoorTie.lean); close each card by the builder's one call (the guide's Derived/Test/ToyasCard.lean, 'card_holds'). Laid BY PROGRAM, IN A SANDBOX (cutbox-door.mjs). By AI agents, Wed Nov 11 2026. No macro, syntax, notation, axiom, sorry.
-/
import Derived.Test.YtmjbiocildkhnaaGreatDoorRows
import GoSem.ClaimSeven
namespace Go.Proofs.YtmjbiocildkhnaaGreatDoor
namespace Rows

/-- THE TIED CARD OF 'rabbetlaw06.ViewChecks'. -/
def viewChecksCard : Claim7 := { stood := { row := viewChecksRow, standIns := [], harness := (true, "ae99d65cbb0bcfdf2b05a406ef39d3e996e06fd3d4abb5f391c28b4d3d4cb0ab"), looks := true }, kinds := [], alts := [], laidByText := true, laidKinds := [.data, .data, .data, .data, .sentinel, .sentinel, .pinned], laidTests := true, laidLooks := .later }
def ViewChecksCardSaid : Prop := Claim7.holds Tryz.pinned (.plain (OpenSpec.ofChange viewChecksSpec)) viewChecksCard

/-- THE TIED CARD OF 'rabbetlaw06.ViewKeeps'. -/
def viewKeepsCard : Claim7 := { stood := { row := viewKeepsRow, standIns := [], harness := (true, "ae99d65cbb0bcfdf2b05a406ef39d3e996e06fd3d4abb5f391c28b4d3d4cb0ab"), looks := true }, kinds := [], alts := [], laidByText := true, laidKinds := [.data, .data, .data, .data, .sentinel, .sentinel, .pinned], laidTests := true, laidLooks := .later }
def ViewKeepsCardSaid : Prop := Claim7.holds Tryz.pinned (.plain (OpenSpec.ofChange viewKeepsSpec)) viewKeepsCard

/-- THE SECOND FORM's CARD OF 'rabbetlaw06.ViewChecks'. -/
def viewChecksUptoCard : Claim7 := { stood := { row := viewChecksUptoRow, standIns := [], harness := (true, "ae99d65cbb0bcfdf2b05a406ef39d3e996e06fd3d4abb5f391c28b4d3d4cb0ab"), looks := true }, kinds := [], alts := [], laidByText := true, laidKinds := [.data, .data, .data, .data, .sentinel, .sentinel, .pinned], laidTests := true, laidLooks := .later }
def ViewChecksUptoCardSaid : Prop := Claim7.holds Tryz.pinned (.plain (OpenSpec.upto viewChecksSpec)) viewChecksUptoCard

/-- THE SECOND FORM's CARD OF 'rabbetlaw06.ViewKeeps'. -/
def viewKeepsUptoCard : Claim7 := { stood := { row := viewKeepsUptoRow, standIns := [], harness := (true, "ae99d65cbb0bcfdf2b05a406ef39d3e996e06fd3d4abb5f391c28b4d3d4cb0ab"), looks := true }, kinds := [], alts := [], laidByText := true, laidKinds := [.data, .data, .data, .data, .sentinel, .sentinel, .pinned], laidTests := true, laidLooks := .later }
def ViewKeepsUptoCardSaid : Prop := Claim7.holds Tryz.pinned (.plain (OpenSpec.upto viewKeepsSpec)) viewKeepsUptoCard
end Rows
end Go.Proofs.YtmjbiocildkhnaaGreatDoor
