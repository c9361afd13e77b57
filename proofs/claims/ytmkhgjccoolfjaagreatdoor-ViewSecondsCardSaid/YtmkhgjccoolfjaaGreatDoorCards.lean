/-
  DERIVED. GIVEN WITH THE SEED: THE CARDS: each row of YtmkhgjccoolfjaaGreatDoorRows.lean that lists a variable, with what it lists TIED to the program's text (the seventh form; the later family's looks); each row that meets fmt, with fmt's text TOLD by the authors' own Lean function (tested against real Go, not proved from fmt's source: count such statements apart). THE CARD IS WHAT COUNTS. Prove the row's statement (the work); the ties are given (YtmkhgjccoolfjaaGreatDoorTie.lean); close each card by the builder's one call (the guide's Derived/Test/ToyasCard.lean, 'card_holds'). Laid BY PROGRAM, IN A SANDBOX (cutbox-door.mjs). By AI agents, Wed Nov 11 2026. No macro, syntax, notation, axiom, sorry.
-/
import Derived.Test.YtmkhgjccoolfjaaGreatDoorRows
import GoSem.ClaimSeven
namespace Go.Proofs.YtmkhgjccoolfjaaGreatDoor
namespace Rows

/-- THE TIED CARD OF 'rabbetlaw06.ViewSeconds'. -/
def viewSecondsCard : Claim7 := { stood := { row := viewSecondsRow, standIns := [], harness := (true, "07c92408915c82ad9d50c606f0693d6785f3e3ba83d46581b44ee5ac77832345"), looks := true }, kinds := [], alts := [], laidByText := true, laidKinds := [.data, .data, .data, .data, .sentinel, .sentinel, .pinned], laidTests := true, laidLooks := .later }
def ViewSecondsCardSaid : Prop := Claim7.holds Tryz.pinned (.plain (OpenSpec.ofChange viewSecondsSpec)) viewSecondsCard

/-- THE TIED CARD OF 'rabbetlaw06.ViewPoles'. -/
def viewPolesCard : Claim7 := { stood := { row := viewPolesRow, standIns := [], harness := (true, "07c92408915c82ad9d50c606f0693d6785f3e3ba83d46581b44ee5ac77832345"), looks := true }, kinds := [], alts := [], laidByText := true, laidKinds := [.data, .data, .data, .data, .sentinel, .sentinel, .pinned], laidTests := true, laidLooks := .later }
def ViewPolesCardSaid : Prop := Claim7.holds Tryz.pinned (.plain (OpenSpec.ofChange viewPolesSpec)) viewPolesCard

/-- THE TIED CARD OF 'rabbetlaw06.ViewConics'. -/
def viewConicsCard : Claim7 := { stood := { row := viewConicsRow, standIns := [], harness := (true, "07c92408915c82ad9d50c606f0693d6785f3e3ba83d46581b44ee5ac77832345"), looks := true }, kinds := [], alts := [], laidByText := true, laidKinds := [.data, .data, .data, .data, .sentinel, .sentinel, .pinned], laidTests := true, laidLooks := .later }
def ViewConicsCardSaid : Prop := Claim7.holds Tryz.pinned (.plain (OpenSpec.ofChange viewConicsSpec)) viewConicsCard

/-- THE SECOND FORM's CARD OF 'rabbetlaw06.ViewSeconds'. -/
def viewSecondsUptoCard : Claim7 := { stood := { row := viewSecondsUptoRow, standIns := [], harness := (true, "07c92408915c82ad9d50c606f0693d6785f3e3ba83d46581b44ee5ac77832345"), looks := true }, kinds := [], alts := [], laidByText := true, laidKinds := [.data, .data, .data, .data, .sentinel, .sentinel, .pinned], laidTests := true, laidLooks := .later }
def ViewSecondsUptoCardSaid : Prop := Claim7.holds Tryz.pinned (.plain (OpenSpec.upto viewSecondsSpec)) viewSecondsUptoCard

/-- THE SECOND FORM's CARD OF 'rabbetlaw06.ViewPoles'. -/
def viewPolesUptoCard : Claim7 := { stood := { row := viewPolesUptoRow, standIns := [], harness := (true, "07c92408915c82ad9d50c606f0693d6785f3e3ba83d46581b44ee5ac77832345"), looks := true }, kinds := [], alts := [], laidByText := true, laidKinds := [.data, .data, .data, .data, .sentinel, .sentinel, .pinned], laidTests := true, laidLooks := .later }
def ViewPolesUptoCardSaid : Prop := Claim7.holds Tryz.pinned (.plain (OpenSpec.upto viewPolesSpec)) viewPolesUptoCard

/-- THE SECOND FORM's CARD OF 'rabbetlaw06.ViewConics'. -/
def viewConicsUptoCard : Claim7 := { stood := { row := viewConicsUptoRow, standIns := [], harness := (true, "07c92408915c82ad9d50c606f0693d6785f3e3ba83d46581b44ee5ac77832345"), looks := true }, kinds := [], alts := [], laidByText := true, laidKinds := [.data, .data, .data, .data, .sentinel, .sentinel, .pinned], laidTests := true, laidLooks := .later }
def ViewConicsUptoCardSaid : Prop := Claim7.holds Tryz.pinned (.plain (OpenSpec.upto viewConicsSpec)) viewConicsUptoCard
end Rows
end Go.Proofs.YtmkhgjccoolfjaaGreatDoor
