/-
  DERIVED. GIVEN WITH THE SEED: THE CARDS: each row of YtjklecncdinabaaGreatDoorRows.lean that lists a variable, with what it lists TIED to the program's text (the seventh form; the later family's looks); each row that meets fmt, with fmt's text TOLD by the authors' own Lean function (tested against real Go, not proved from fmt's source: count such statements apart). THE CARD IS WHAT COUNTS. Prove the row's statement (the work); the ties are given (YtjklecncdinabaaGreatDoorTie.lean); close each card by the builder's one call (the guide's Derived/Test/ToyasCard.lean, 'card_holds'). Laid BY PROGRAM, IN A SANDBOX (cutbox-door.mjs). By AI agents, Wed Nov 11 2026. No macro, syntax, notation, axiom, sorry.
-/
import Derived.Test.YtjklecncdinabaaGreatDoorRows
import GoSem.ClaimSeven
namespace Go.Proofs.YtjklecncdinabaaGreatDoor
namespace Rows

/-- THE TIED CARD OF 'culpritlaw13.CoerceThens'. -/
def coerceThensCard : Claim7 := { stood := { row := coerceThensRow, standIns := [], harness := (true, "510eb2845ed57cd77337965b02608743216eca89bda52b6e17e22bc129188aab"), looks := true }, kinds := [], alts := [], laidByText := true, laidKinds := [.data, .data, .data], laidTests := true, laidLooks := .later }
def CoerceThensCardSaid : Prop := Claim7.holds Tryz.pinned (.plain (OpenSpec.ofChange coerceThensSpec)) coerceThensCard

/-- THE SECOND FORM's CARD OF 'culpritlaw13.CoerceThens'. -/
def coerceThensUptoCard : Claim7 := { stood := { row := coerceThensUptoRow, standIns := [], harness := (true, "510eb2845ed57cd77337965b02608743216eca89bda52b6e17e22bc129188aab"), looks := true }, kinds := [], alts := [], laidByText := true, laidKinds := [.data, .data, .data], laidTests := true, laidLooks := .later }
def CoerceThensUptoCardSaid : Prop := Claim7.holds Tryz.pinned (.plain (OpenSpec.upto coerceThensSpec)) coerceThensUptoCard
end Rows
end Go.Proofs.YtjklecncdinabaaGreatDoor
