/-
  DERIVED. GIVEN WITH THE SEED: THE CARDS: each row of YtkebplifkkhhlaaDoorRows.lean that lists a variable, with what it lists TIED to the program's text (the seventh form; the later family's looks); each row that meets fmt, with fmt's text TOLD by the authors' own Lean function (tested against real Go, not proved from fmt's source: count such statements apart). THE CARD IS WHAT COUNTS. Prove the row's statement (the work); the ties are given (YtkebplifkkhhlaaDoorTie.lean); close each card by the builder's one call (the guide's Derived/Test/ToyasCard.lean, 'card_holds'). Laid BY PROGRAM, IN A SANDBOX (cutbox-door.mjs). By AI agents, Wed Nov 11 2026. No macro, syntax, notation, axiom, sorry.
-/
import Derived.Test.YtkebplifkkhhlaaDoorRows
import GoSem.ClaimSeven
namespace Go.Proofs.YtkebplifkkhhlaaDoor
namespace Rows

/-- THE TIED CARD OF 'culpritlaw28.FaultOf'. -/
def faultOfCard : Claim7 := { stood := { row := faultOfRow, standIns := [], harness := (true, "4930547ed93e1a3cfe41258698e339c762dfc603600cbaa67e0ca614c0939c62"), looks := true }, kinds := [], alts := [], laidByText := true, laidKinds := [.data, .data, .data, .handle], laidTests := true, laidLooks := .later }
def FaultOfCardSaid : Prop := Claim7.holds Tryd.pinned (.plain (OpenSpec.ofChange faultOfSpec)) faultOfCard

/-- THE TIED CARD OF 'culpritlaw28.FaultWraps'. -/
def faultWrapsCard : Claim7 := { stood := { row := faultWrapsRow, standIns := [], harness := (true, "4930547ed93e1a3cfe41258698e339c762dfc603600cbaa67e0ca614c0939c62"), looks := true }, kinds := [], alts := [], laidByText := true, laidKinds := [.data, .data, .data, .handle], laidTests := true, laidLooks := .later }
def FaultWrapsCardSaid : Prop := Claim7.holds Tryd.pinned (.plain (OpenSpec.ofChange faultWrapsSpec)) faultWrapsCard

/-- THE TIED CARD OF 'culpritlaw28.FaultNone'. -/
def faultNoneCard : Claim7 := { stood := { row := faultNoneRow, standIns := [], harness := (true, "4930547ed93e1a3cfe41258698e339c762dfc603600cbaa67e0ca614c0939c62"), looks := true }, kinds := [], alts := [], laidByText := true, laidKinds := [.data, .data, .data, .handle], laidTests := true, laidLooks := .later }
def FaultNoneCardSaid : Prop := Claim7.holds Tryd.pinned (.plain (OpenSpec.ofChange faultNoneSpec)) faultNoneCard

/-- THE TIED CARD OF 'culpritlaw13.CoerceThrice'. -/
def coerceThriceCard : Claim7 := { stood := { row := coerceThriceRow, standIns := [], harness := (true, "4930547ed93e1a3cfe41258698e339c762dfc603600cbaa67e0ca614c0939c62"), looks := true }, kinds := [], alts := [], laidByText := true, laidKinds := [.data, .data, .data], laidTests := true, laidLooks := .later }
def CoerceThriceCardSaid : Prop := Claim7.holds Tryd.pinned (.plain (OpenSpec.ofChange coerceThriceSpec)) coerceThriceCard

/-- THE TIED CARD OF 'culpritlaw13.CoerceMays'. -/
def coerceMaysCard : Claim7 := { stood := { row := coerceMaysRow, standIns := [], harness := (true, "4930547ed93e1a3cfe41258698e339c762dfc603600cbaa67e0ca614c0939c62"), looks := true }, kinds := [], alts := [], laidByText := true, laidKinds := [.data, .data, .data], laidTests := true, laidLooks := .later }
def CoerceMaysCardSaid : Prop := Claim7.holds Tryd.pinned (.plain (OpenSpec.ofChange coerceMaysSpec)) coerceMaysCard

/-- THE TIED CARD OF 'culpritlaw13.CoerceLaws'. -/
def coerceLawsCard : Claim7 := { stood := { row := coerceLawsRow, standIns := [], harness := (true, "4930547ed93e1a3cfe41258698e339c762dfc603600cbaa67e0ca614c0939c62"), looks := true }, kinds := [], alts := [], laidByText := true, laidKinds := [.data, .data, .data], laidTests := true, laidLooks := .later }
def CoerceLawsCardSaid : Prop := Claim7.holds Tryd.pinned (.plain (OpenSpec.ofChange coerceLawsSpec)) coerceLawsCard

/-- THE SECOND FORM's CARD OF 'culpritlaw28.FaultOf'. -/
def faultOfUptoCard : Claim7 := { stood := { row := faultOfUptoRow, standIns := [], harness := (true, "4930547ed93e1a3cfe41258698e339c762dfc603600cbaa67e0ca614c0939c62"), looks := true }, kinds := [], alts := [], laidByText := true, laidKinds := [.data, .data, .data, .handle], laidTests := true, laidLooks := .later }
def FaultOfUptoCardSaid : Prop := Claim7.holds Tryd.pinned (.plain (OpenSpec.upto faultOfSpec)) faultOfUptoCard

/-- THE SECOND FORM's CARD OF 'culpritlaw28.FaultWraps'. -/
def faultWrapsUptoCard : Claim7 := { stood := { row := faultWrapsUptoRow, standIns := [], harness := (true, "4930547ed93e1a3cfe41258698e339c762dfc603600cbaa67e0ca614c0939c62"), looks := true }, kinds := [], alts := [], laidByText := true, laidKinds := [.data, .data, .data, .handle], laidTests := true, laidLooks := .later }
def FaultWrapsUptoCardSaid : Prop := Claim7.holds Tryd.pinned (.plain (OpenSpec.upto faultWrapsSpec)) faultWrapsUptoCard

/-- THE SECOND FORM's CARD OF 'culpritlaw28.FaultNone'. -/
def faultNoneUptoCard : Claim7 := { stood := { row := faultNoneUptoRow, standIns := [], harness := (true, "4930547ed93e1a3cfe41258698e339c762dfc603600cbaa67e0ca614c0939c62"), looks := true }, kinds := [], alts := [], laidByText := true, laidKinds := [.data, .data, .data, .handle], laidTests := true, laidLooks := .later }
def FaultNoneUptoCardSaid : Prop := Claim7.holds Tryd.pinned (.plain (OpenSpec.upto faultNoneSpec)) faultNoneUptoCard

/-- THE SECOND FORM's CARD OF 'culpritlaw13.CoerceThrice'. -/
def coerceThriceUptoCard : Claim7 := { stood := { row := coerceThriceUptoRow, standIns := [], harness := (true, "4930547ed93e1a3cfe41258698e339c762dfc603600cbaa67e0ca614c0939c62"), looks := true }, kinds := [], alts := [], laidByText := true, laidKinds := [.data, .data, .data], laidTests := true, laidLooks := .later }
def CoerceThriceUptoCardSaid : Prop := Claim7.holds Tryd.pinned (.plain (OpenSpec.upto coerceThriceSpec)) coerceThriceUptoCard

/-- THE SECOND FORM's CARD OF 'culpritlaw13.CoerceMays'. -/
def coerceMaysUptoCard : Claim7 := { stood := { row := coerceMaysUptoRow, standIns := [], harness := (true, "4930547ed93e1a3cfe41258698e339c762dfc603600cbaa67e0ca614c0939c62"), looks := true }, kinds := [], alts := [], laidByText := true, laidKinds := [.data, .data, .data], laidTests := true, laidLooks := .later }
def CoerceMaysUptoCardSaid : Prop := Claim7.holds Tryd.pinned (.plain (OpenSpec.upto coerceMaysSpec)) coerceMaysUptoCard

/-- THE SECOND FORM's CARD OF 'culpritlaw13.CoerceLaws'. -/
def coerceLawsUptoCard : Claim7 := { stood := { row := coerceLawsUptoRow, standIns := [], harness := (true, "4930547ed93e1a3cfe41258698e339c762dfc603600cbaa67e0ca614c0939c62"), looks := true }, kinds := [], alts := [], laidByText := true, laidKinds := [.data, .data, .data], laidTests := true, laidLooks := .later }
def CoerceLawsUptoCardSaid : Prop := Claim7.holds Tryd.pinned (.plain (OpenSpec.upto coerceLawsSpec)) coerceLawsUptoCard
end Rows
end Go.Proofs.YtkebplifkkhhlaaDoor
