/-
  DERIVED. GIVEN WITH THE SEED: THE CARDS: each row of YthonnpjlkcjoeaaDoorRows.lean that lists a variable, with what it lists TIED to the program's text (the seventh form; the later family's looks); each row that meets fmt, with fmt's text TOLD by the authors' own Lean function (tested against real Go, not proved from fmt's source: count such statements apart). THE CARD IS WHAT COUNTS. Prove the row's statement (the work); the ties are given (YthonnpjlkcjoeaaDoorTie.lean); close each card by the builder's one call (the guide's Derived/Test/ToyasCard.lean, 'card_holds'). Laid BY PROGRAM, IN A SANDBOX (cutbox-door.mjs). By AI agents, Wed Nov 11 2026. No macro, syntax, notation, axiom, sorry.
-/
import Derived.Test.YthonnpjlkcjoeaaDoorRows
import GoSem.ClaimSeven
namespace Go.Proofs.YthonnpjlkcjoeaaDoor
namespace Rows

/-- THE TIED CARD OF 'culpritlaw09.LabelTells'. -/
def labelTellsCard : Claim7 := { stood := { row := labelTellsRow, standIns := [], harness := (true, "cac04d66e561103b3c60a389beecf06c0001ea00e85875722555f2772d0139e6"), looks := false }, kinds := [], alts := [], laidByText := true, laidKinds := [.data, .data, .data], laidTests := true, laidLooks := .later }
def LabelTellsCardSaid : Prop := Claim7.holds Tryd.pinned (.plain (OpenSpec.ofChange labelTellsSpec)) labelTellsCard

/-- THE TIED CARD OF 'culpritlaw09.LabelSorted'. -/
def labelSortedCard : Claim7 := { stood := { row := labelSortedRow, standIns := [], harness := (true, "cac04d66e561103b3c60a389beecf06c0001ea00e85875722555f2772d0139e6"), looks := false }, kinds := [], alts := [], laidByText := true, laidKinds := [.data, .data, .data], laidTests := true, laidLooks := .later }
def LabelSortedCardSaid : Prop := Claim7.holds Tryd.pinned (.plain (OpenSpec.ofChange labelSortedSpec)) labelSortedCard

/-- THE TIED CARD OF 'culpritlaw03.RelateOne'. -/
def relateOneCard : Claim7 := { stood := { row := relateOneRow, standIns := [], harness := (true, "cac04d66e561103b3c60a389beecf06c0001ea00e85875722555f2772d0139e6"), looks := false }, kinds := [], alts := [], laidByText := true, laidKinds := [.data, .data, .data], laidTests := true, laidLooks := .later }
def RelateOneCardSaid : Prop := Claim7.holds Tryd.pinned (.plain (OpenSpec.ofChange relateOneSpec)) relateOneCard

/-- THE TIED CARD OF 'culpritlaw02.TypesMakes'. -/
def typesMakesCard : Claim7 := { stood := { row := typesMakesRow, standIns := [], harness := (true, "cac04d66e561103b3c60a389beecf06c0001ea00e85875722555f2772d0139e6"), looks := false }, kinds := [], alts := [], laidByText := true, laidKinds := [.data, .data, .data], laidTests := true, laidLooks := .later }
def TypesMakesCardSaid : Prop := Claim7.holds Tryd.pinned (.plain (OpenSpec.ofChange typesMakesSpec)) typesMakesCard

/-- THE SECOND FORM's CARD OF 'culpritlaw09.LabelTells'. -/
def labelTellsUptoCard : Claim7 := { stood := { row := labelTellsUptoRow, standIns := [], harness := (true, "cac04d66e561103b3c60a389beecf06c0001ea00e85875722555f2772d0139e6"), looks := false }, kinds := [], alts := [], laidByText := true, laidKinds := [.data, .data, .data], laidTests := true, laidLooks := .later }
def LabelTellsUptoCardSaid : Prop := Claim7.holds Tryd.pinned (.plain (OpenSpec.upto labelTellsSpec)) labelTellsUptoCard

/-- THE SECOND FORM's CARD OF 'culpritlaw09.LabelSorted'. -/
def labelSortedUptoCard : Claim7 := { stood := { row := labelSortedUptoRow, standIns := [], harness := (true, "cac04d66e561103b3c60a389beecf06c0001ea00e85875722555f2772d0139e6"), looks := false }, kinds := [], alts := [], laidByText := true, laidKinds := [.data, .data, .data], laidTests := true, laidLooks := .later }
def LabelSortedUptoCardSaid : Prop := Claim7.holds Tryd.pinned (.plain (OpenSpec.upto labelSortedSpec)) labelSortedUptoCard

/-- THE SECOND FORM's CARD OF 'culpritlaw03.RelateOne'. -/
def relateOneUptoCard : Claim7 := { stood := { row := relateOneUptoRow, standIns := [], harness := (true, "cac04d66e561103b3c60a389beecf06c0001ea00e85875722555f2772d0139e6"), looks := false }, kinds := [], alts := [], laidByText := true, laidKinds := [.data, .data, .data], laidTests := true, laidLooks := .later }
def RelateOneUptoCardSaid : Prop := Claim7.holds Tryd.pinned (.plain (OpenSpec.upto relateOneSpec)) relateOneUptoCard

/-- THE SECOND FORM's CARD OF 'culpritlaw02.TypesMakes'. -/
def typesMakesUptoCard : Claim7 := { stood := { row := typesMakesUptoRow, standIns := [], harness := (true, "cac04d66e561103b3c60a389beecf06c0001ea00e85875722555f2772d0139e6"), looks := false }, kinds := [], alts := [], laidByText := true, laidKinds := [.data, .data, .data], laidTests := true, laidLooks := .later }
def TypesMakesUptoCardSaid : Prop := Claim7.holds Tryd.pinned (.plain (OpenSpec.upto typesMakesSpec)) typesMakesUptoCard
end Rows
end Go.Proofs.YthonnpjlkcjoeaaDoor
