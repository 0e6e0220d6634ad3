/-
  DERIVED. GIVEN WITH THE SEED: THE CARDS: each row of YthonnpjlkcjoeaaGreatDoorRows.lean that lists a variable, with what it lists TIED to the program's text (the seventh form; the later family's looks); each row that meets fmt, with fmt's text TOLD by the authors' own Lean function (tested against real Go, not proved from fmt's source: count such statements apart). THE CARD IS WHAT COUNTS. Prove the row's statement (the work); the ties are given (YthonnpjlkcjoeaaGreatDoorTie.lean); close each card by the builder's one call (the guide's Derived/Test/ToyasCard.lean, 'card_holds'). Laid BY PROGRAM, IN A SANDBOX (cutbox-door.mjs). By AI agents, Wed Nov 11 2026. No macro, syntax, notation, axiom, sorry.
-/
import Derived.Test.YthonnpjlkcjoeaaGreatDoorRows
import GoSem.ClaimSeven
namespace Go.Proofs.YthonnpjlkcjoeaaGreatDoor
namespace Rows

/-- THE TIED CARD OF 'culpritlaw02.TypesTells'. -/
def typesTellsCard : Claim7 := { stood := { row := typesTellsRow, standIns := [], harness := (true, "b61fe19df6ca296c92da0aeed4fab6ddba2da6d82e6be4e510345bcd4720b679"), looks := false }, kinds := [], alts := [], laidByText := true, laidKinds := [.data, .data, .data], laidTests := true, laidLooks := .later }
def TypesTellsCardSaid : Prop := Claim7.holds Tryz.pinned (.plain (OpenSpec.ofChange typesTellsSpec)) typesTellsCard

/-- THE SECOND FORM's CARD OF 'culpritlaw02.TypesTells'. -/
def typesTellsUptoCard : Claim7 := { stood := { row := typesTellsUptoRow, standIns := [], harness := (true, "b61fe19df6ca296c92da0aeed4fab6ddba2da6d82e6be4e510345bcd4720b679"), looks := false }, kinds := [], alts := [], laidByText := true, laidKinds := [.data, .data, .data], laidTests := true, laidLooks := .later }
def TypesTellsUptoCardSaid : Prop := Claim7.holds Tryz.pinned (.plain (OpenSpec.upto typesTellsSpec)) typesTellsUptoCard
end Rows
end Go.Proofs.YthonnpjlkcjoeaaGreatDoor
