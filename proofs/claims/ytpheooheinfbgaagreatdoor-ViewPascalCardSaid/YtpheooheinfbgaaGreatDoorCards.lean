/-
  DERIVED. GIVEN WITH THE SEED: THE CARDS: each row of YtpheooheinfbgaaGreatDoorRows.lean that lists a variable, with what it lists TIED to the program's text (the seventh form; the later family's looks); each row that meets fmt, with fmt's text TOLD by the authors' own Lean function (tested against real Go, not proved from fmt's source: count such statements apart). THE CARD IS WHAT COUNTS. Prove the row's statement (the work); the ties are given (YtpheooheinfbgaaGreatDoorTie.lean); close each card by the builder's one call (the guide's Derived/Test/ToyasCard.lean, 'card_holds'). Laid BY PROGRAM, IN A SANDBOX (cutbox-door.mjs). By AI agents, Wed Nov 11 2026. No macro, syntax, notation, axiom, sorry.
-/
import Derived.Test.YtpheooheinfbgaaGreatDoorRows
import GoSem.ClaimSeven
namespace Go.Proofs.YtpheooheinfbgaaGreatDoor
namespace Rows

/-- THE TIED CARD OF 'rabbetlaw06.ViewJoins'. -/
def viewJoinsCard : Claim7 := { stood := { row := viewJoinsRow, standIns := [], harness := (true, "046d48233b8d2e7396d1e122c0be97c90befb56b63c73796eaa493ec7443d5b4"), looks := true }, kinds := [], alts := [], laidByText := true, laidKinds := [.data, .data, .data, .data, .sentinel, .sentinel, .pinned], laidTests := true, laidLooks := .later }
def ViewJoinsCardSaid : Prop := Claim7.holds Tryz.pinned (.plain (OpenSpec.ofChange viewJoinsSpec)) viewJoinsCard

/-- THE TIED CARD OF 'rabbetlaw06.ViewPascal'. -/
def viewPascalCard : Claim7 := { stood := { row := viewPascalRow, standIns := [], harness := (true, "046d48233b8d2e7396d1e122c0be97c90befb56b63c73796eaa493ec7443d5b4"), looks := true }, kinds := [], alts := [], laidByText := true, laidKinds := [.data, .data, .data, .data, .sentinel, .sentinel, .pinned], laidTests := true, laidLooks := .later }
def ViewPascalCardSaid : Prop := Claim7.holds Tryz.pinned (.plain (OpenSpec.ofChange viewPascalSpec)) viewPascalCard

/-- THE SECOND FORM's CARD OF 'rabbetlaw06.ViewJoins'. -/
def viewJoinsUptoCard : Claim7 := { stood := { row := viewJoinsUptoRow, standIns := [], harness := (true, "046d48233b8d2e7396d1e122c0be97c90befb56b63c73796eaa493ec7443d5b4"), looks := true }, kinds := [], alts := [], laidByText := true, laidKinds := [.data, .data, .data, .data, .sentinel, .sentinel, .pinned], laidTests := true, laidLooks := .later }
def ViewJoinsUptoCardSaid : Prop := Claim7.holds Tryz.pinned (.plain (OpenSpec.upto viewJoinsSpec)) viewJoinsUptoCard

/-- THE SECOND FORM's CARD OF 'rabbetlaw06.ViewPascal'. -/
def viewPascalUptoCard : Claim7 := { stood := { row := viewPascalUptoRow, standIns := [], harness := (true, "046d48233b8d2e7396d1e122c0be97c90befb56b63c73796eaa493ec7443d5b4"), looks := true }, kinds := [], alts := [], laidByText := true, laidKinds := [.data, .data, .data, .data, .sentinel, .sentinel, .pinned], laidTests := true, laidLooks := .later }
def ViewPascalUptoCardSaid : Prop := Claim7.holds Tryz.pinned (.plain (OpenSpec.upto viewPascalSpec)) viewPascalUptoCard
end Rows
end Go.Proofs.YtpheooheinfbgaaGreatDoor
