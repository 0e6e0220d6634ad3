/-
  No cell of these rows narrows 'for every input' (looked for: loops, veiled, ifaces, maps, wideKeys, modest, calm, conditions, laid).
  DERIVED. THE GIVEN ROWS OF THIS SEAT. 6 by the template 'for every input the law returns true; each argument reads behind the call as it read before'; 0 by the template 'total and deterministic' (their statements: YthonnpjlkcjoeaaTotals.lean).
  GIVEN WITH THE SEED: the statements are not yours to turn. If you find one false, say at which input.
  Laid BY PROGRAM, IN A SANDBOX (cutbox-rows.mjs): the forced cells as the released guide's own fill.sh prints them over the translation 2a43ce90503abfac… (all of the seat's roots in one cut). By AI agents, Wed Nov 11 2026. No macro, syntax, notation, axiom, sorry.
-/
import Derived.Test.YthonnpjlkcjoeaaChecked
import GoSem.Claim
import GoSem.ClaimJoined
import GoSem.ClaimMapViews
import Derived.JoinedTies
import Derived.KernelRfl
namespace Go.Proofs.Ythonnpjlkcjoeaa
/- THE CELL 'sum', in the pinned program and in every row, IS THE sha256 OF THE DUMP (.gsa) THAT YthonnpjlkcjoeaaProg.lean LOADS. Nothing in Lean hashes anything: it is a label: what it is worth is what the hold of that sum in a sandbox is worth. -/
noncomputable def Try.pinned : Pinned := { name := "ythonnpjlkcjoeaa", sum := "2a43ce90503abfac8a55161d0e9b2d2848feb4ab5b2d60819b19a68b5d561bd8", checked := Try.checked }
namespace Rows
def none {H : Type} : Left H := { results := [], args := [] }

/-- 'culpritlaw09.LabelTurns': WHATEVER THE INPUT: true; the input reads as it did. -/
def labelTurnsSpec : ChangeSpec := { name := "labelTurns", fn := fun _ => fun
  | [d1, d2] => { results := [.lit (.bool true)], args := [d1, d2] }
  | _ => none }
def labelTurnsRow : OpenClaim := { program := "ythonnpjlkcjoeaa", sum := "2a43ce90503abfac8a55161d0e9b2d2848feb4ab5b2d60819b19a68b5d561bd8", func := "culprit/culpritlaw09.LabelTurns", spec := "labelTurns", apart := false }
def LabelTurnsSaid : Prop := labelTurnsRow.holds Try.pinned (OpenSpec.ofChange labelTurnsSpec)

/-- ITS FALSE NEIGHBOUR: 'it returns false'. Refute it at one input. -/
def labelTurnsWrong : ChangeSpec := { name := "labelTurns", fn := fun _ => fun
  | [d1, d2] => { results := [.lit (.bool false)], args := [d1, d2] }
  | _ => none }
def LabelTurnsWrongFalsely : Prop := labelTurnsRow.holds Try.pinned (OpenSpec.ofChange labelTurnsWrong)

/-- 'culpritlaw03.RelateTwo': WHATEVER THE INPUT: true; the input reads as it did. -/
def relateTwoSpec : ChangeSpec := { name := "relateTwo", fn := fun _ => fun
  | [d1, d2] => { results := [.lit (.bool true)], args := [d1, d2] }
  | _ => none }
def relateTwoRow : OpenClaim := { program := "ythonnpjlkcjoeaa", sum := "2a43ce90503abfac8a55161d0e9b2d2848feb4ab5b2d60819b19a68b5d561bd8", func := "culprit/culpritlaw03.RelateTwo", spec := "relateTwo", inPlace := ["internal/abi.NoEscape", "internal/bytealg.MakeNoZero"], unfollowed := true, recurses := true, apart := false }
def RelateTwoSaid : Prop := relateTwoRow.holds Try.pinned (OpenSpec.ofChange relateTwoSpec)

/-- ITS FALSE NEIGHBOUR: 'it returns false'. Refute it at one input. -/
def relateTwoWrong : ChangeSpec := { name := "relateTwo", fn := fun _ => fun
  | [d1, d2] => { results := [.lit (.bool false)], args := [d1, d2] }
  | _ => none }
def RelateTwoWrongFalsely : Prop := relateTwoRow.holds Try.pinned (OpenSpec.ofChange relateTwoWrong)

/-- 'culpritlaw03.RelateSteps': WHATEVER THE INPUT: true; the input reads as it did. -/
def relateStepsSpec : ChangeSpec := { name := "relateSteps", fn := fun _ => fun
  | [d1, d2, d3] => { results := [.lit (.bool true)], args := [d1, d2, d3] }
  | _ => none }
def relateStepsRow : OpenClaim := { program := "ythonnpjlkcjoeaa", sum := "2a43ce90503abfac8a55161d0e9b2d2848feb4ab5b2d60819b19a68b5d561bd8", func := "culprit/culpritlaw03.RelateSteps", spec := "relateSteps", inPlace := ["internal/abi.NoEscape", "internal/bytealg.MakeNoZero"], unfollowed := true, recurses := true, apart := false }
def RelateStepsSaid : Prop := relateStepsRow.holds Try.pinned (OpenSpec.ofChange relateStepsSpec)

/-- ITS FALSE NEIGHBOUR: 'it returns false'. Refute it at one input. -/
def relateStepsWrong : ChangeSpec := { name := "relateSteps", fn := fun _ => fun
  | [d1, d2, d3] => { results := [.lit (.bool false)], args := [d1, d2, d3] }
  | _ => none }
def RelateStepsWrongFalsely : Prop := relateStepsRow.holds Try.pinned (OpenSpec.ofChange relateStepsWrong)

/-- 'culpritlaw03.RelateOrder': WHATEVER THE INPUT: true; the input reads as it did. -/
def relateOrderSpec : ChangeSpec := { name := "relateOrder", fn := fun _ => fun
  | [d1, d2, d3] => { results := [.lit (.bool true)], args := [d1, d2, d3] }
  | _ => none }
def relateOrderRow : OpenClaim := { program := "ythonnpjlkcjoeaa", sum := "2a43ce90503abfac8a55161d0e9b2d2848feb4ab5b2d60819b19a68b5d561bd8", func := "culprit/culpritlaw03.RelateOrder", spec := "relateOrder", inPlace := ["internal/abi.NoEscape", "internal/bytealg.MakeNoZero", "internal/bytealg.IndexByteString", "internal/bytealg.IndexString"], unfollowed := true, recurses := true, named := ["internal/bytealg.MaxLen"], apart := false }
def RelateOrderSaid : Prop := relateOrderRow.holds Try.pinned (OpenSpec.ofChange relateOrderSpec)

/-- ITS FALSE NEIGHBOUR: 'it returns false'. Refute it at one input. -/
def relateOrderWrong : ChangeSpec := { name := "relateOrder", fn := fun _ => fun
  | [d1, d2, d3] => { results := [.lit (.bool false)], args := [d1, d2, d3] }
  | _ => none }
def RelateOrderWrongFalsely : Prop := relateOrderRow.holds Try.pinned (OpenSpec.ofChange relateOrderWrong)

/-- 'culpritlaw02.TypesReads': WHATEVER THE INPUT: true; the input reads as it did. -/
def typesReadsSpec : ChangeSpec := { name := "typesReads", fn := fun _ => fun
  | [d] => { results := [.lit (.bool true)], args := [d] }
  | _ => none }
def typesReadsRow : OpenClaim := { program := "ythonnpjlkcjoeaa", sum := "2a43ce90503abfac8a55161d0e9b2d2848feb4ab5b2d60819b19a68b5d561bd8", func := "culprit/culpritlaw02.TypesReads", spec := "typesReads", inPlace := ["internal/bytealg.IndexByteString", "internal/bytealg.IndexString", "internal/abi.NoEscape"], unfollowed := true, recurses := true, named := ["internal/bytealg.MaxLen"], apart := false }
def TypesReadsSaid : Prop := typesReadsRow.holds Try.pinned (OpenSpec.ofChange typesReadsSpec)

/-- ITS FALSE NEIGHBOUR: 'it returns false'. Refute it at one input. -/
def typesReadsWrong : ChangeSpec := { name := "typesReads", fn := fun _ => fun
  | [d] => { results := [.lit (.bool false)], args := [d] }
  | _ => none }
def TypesReadsWrongFalsely : Prop := typesReadsRow.holds Try.pinned (OpenSpec.ofChange typesReadsWrong)

/-- 'culpritlaw02.TypesRound': WHATEVER THE INPUT: true; the input reads as it did. -/
def typesRoundSpec : ChangeSpec := { name := "typesRound", fn := fun _ => fun
  | [d1, d2] => { results := [.lit (.bool true)], args := [d1, d2] }
  | _ => none }
def typesRoundRow : OpenClaim := { program := "ythonnpjlkcjoeaa", sum := "2a43ce90503abfac8a55161d0e9b2d2848feb4ab5b2d60819b19a68b5d561bd8", func := "culprit/culpritlaw02.TypesRound", spec := "typesRound", inPlace := ["internal/bytealg.IndexByteString", "internal/bytealg.IndexString", "internal/abi.NoEscape", "internal/bytealg.MakeNoZero"], unfollowed := true, recurses := true, named := ["internal/bytealg.MaxLen"], apart := false }
def TypesRoundSaid : Prop := typesRoundRow.holds Try.pinned (OpenSpec.ofChange typesRoundSpec)

/-- ITS FALSE NEIGHBOUR: 'it returns false'. Refute it at one input. -/
def typesRoundWrong : ChangeSpec := { name := "typesRound", fn := fun _ => fun
  | [d1, d2] => { results := [.lit (.bool false)], args := [d1, d2] }
  | _ => none }
def TypesRoundWrongFalsely : Prop := typesRoundRow.holds Try.pinned (OpenSpec.ofChange typesRoundWrong)

/- THE SECOND FORM. 'bulk': how many values and letters a reading holds, each counted each time it is reached (what is shared counts as often as it is met; a slice's spare places count too). A statement '..UptoSaid' is the law's where the arguments, and the package variables that the reading takes, are together of bulk at most 1048576: NARROWER than '..Said'. Prove '..Said' where nothing that the law and all that it calls make is longer than what came in: it says more and counts as full. Else prove '..UptoSaid'. A law counts once. -/
mutual
def uptoBulk {H : Type} : DataW H → Nat
  | .lit (.string bytes) => bytes.length + 1
  | .lit _ => 1
  | .nil => 1
  | .ptr d => uptoBulk d + 1
  | .slice elems spare => uptoBulkAll elems + uptoBulkAll spare + 1
  | .agg parts => uptoBulkAll parts + 1
  | .iface _ d => uptoBulk d + 1
  | .map entries => uptoBulkEntries entries + 1
  | .held _ => 1
def uptoBulkAll {H : Type} : List (DataW H) → Nat
  | [] => 0
  | d :: r => uptoBulk d + uptoBulkAll r
def uptoBulkEntries {H : Type} : List (Lit × DataW H) → Nat
  | [] => 0
  | x :: r => uptoBulkEntry x + uptoBulkEntries r
def uptoBulkEntry {H : Type} : Lit × DataW H → Nat
  | (.string bytes, d) => bytes.length + uptoBulk d + 1
  | (_, d) => uptoBulk d + 1
 end
def uptoSmall : (H : Type) → List (DataW H) → Bool := fun _ ds => decide (uptoBulkAll ds ≤ 1048576)
def OpenSpec.upto (s : _root_.Go.ChangeSpec) : _root_.Go.OpenSpec := { _root_.Go.OpenSpec.ofChange s with cond := some uptoSmall }

/-- 'culpritlaw09.LabelTurns', WHERE WHAT IT READS IS OF BULK AT MOST 1048576: true; the input reads as it did. -/
def labelTurnsUptoRow : OpenClaim := { program := "ythonnpjlkcjoeaa", sum := "2a43ce90503abfac8a55161d0e9b2d2848feb4ab5b2d60819b19a68b5d561bd8", func := "culprit/culpritlaw09.LabelTurns", spec := "labelTurns", apart := false, narrowed := true }
def LabelTurnsUptoSaid : Prop := labelTurnsUptoRow.holds Try.pinned (OpenSpec.upto labelTurnsSpec)

/-- 'culpritlaw03.RelateTwo', WHERE WHAT IT READS IS OF BULK AT MOST 1048576: true; the input reads as it did. -/
def relateTwoUptoRow : OpenClaim := { program := "ythonnpjlkcjoeaa", sum := "2a43ce90503abfac8a55161d0e9b2d2848feb4ab5b2d60819b19a68b5d561bd8", func := "culprit/culpritlaw03.RelateTwo", spec := "relateTwo", inPlace := ["internal/abi.NoEscape", "internal/bytealg.MakeNoZero"], unfollowed := true, recurses := true, apart := false, narrowed := true }
def RelateTwoUptoSaid : Prop := relateTwoUptoRow.holds Try.pinned (OpenSpec.upto relateTwoSpec)

/-- 'culpritlaw03.RelateSteps', WHERE WHAT IT READS IS OF BULK AT MOST 1048576: true; the input reads as it did. -/
def relateStepsUptoRow : OpenClaim := { program := "ythonnpjlkcjoeaa", sum := "2a43ce90503abfac8a55161d0e9b2d2848feb4ab5b2d60819b19a68b5d561bd8", func := "culprit/culpritlaw03.RelateSteps", spec := "relateSteps", inPlace := ["internal/abi.NoEscape", "internal/bytealg.MakeNoZero"], unfollowed := true, recurses := true, apart := false, narrowed := true }
def RelateStepsUptoSaid : Prop := relateStepsUptoRow.holds Try.pinned (OpenSpec.upto relateStepsSpec)

/-- 'culpritlaw03.RelateOrder', WHERE WHAT IT READS IS OF BULK AT MOST 1048576: true; the input reads as it did. -/
def relateOrderUptoRow : OpenClaim := { program := "ythonnpjlkcjoeaa", sum := "2a43ce90503abfac8a55161d0e9b2d2848feb4ab5b2d60819b19a68b5d561bd8", func := "culprit/culpritlaw03.RelateOrder", spec := "relateOrder", inPlace := ["internal/abi.NoEscape", "internal/bytealg.MakeNoZero", "internal/bytealg.IndexByteString", "internal/bytealg.IndexString"], unfollowed := true, recurses := true, named := ["internal/bytealg.MaxLen"], apart := false, narrowed := true }
def RelateOrderUptoSaid : Prop := relateOrderUptoRow.holds Try.pinned (OpenSpec.upto relateOrderSpec)

/-- 'culpritlaw02.TypesReads', WHERE WHAT IT READS IS OF BULK AT MOST 1048576: true; the input reads as it did. -/
def typesReadsUptoRow : OpenClaim := { program := "ythonnpjlkcjoeaa", sum := "2a43ce90503abfac8a55161d0e9b2d2848feb4ab5b2d60819b19a68b5d561bd8", func := "culprit/culpritlaw02.TypesReads", spec := "typesReads", inPlace := ["internal/bytealg.IndexByteString", "internal/bytealg.IndexString", "internal/abi.NoEscape"], unfollowed := true, recurses := true, named := ["internal/bytealg.MaxLen"], apart := false, narrowed := true }
def TypesReadsUptoSaid : Prop := typesReadsUptoRow.holds Try.pinned (OpenSpec.upto typesReadsSpec)

/-- 'culpritlaw02.TypesRound', WHERE WHAT IT READS IS OF BULK AT MOST 1048576: true; the input reads as it did. -/
def typesRoundUptoRow : OpenClaim := { program := "ythonnpjlkcjoeaa", sum := "2a43ce90503abfac8a55161d0e9b2d2848feb4ab5b2d60819b19a68b5d561bd8", func := "culprit/culpritlaw02.TypesRound", spec := "typesRound", inPlace := ["internal/bytealg.IndexByteString", "internal/bytealg.IndexString", "internal/abi.NoEscape", "internal/bytealg.MakeNoZero"], unfollowed := true, recurses := true, named := ["internal/bytealg.MaxLen"], apart := false, narrowed := true }
def TypesRoundUptoSaid : Prop := typesRoundUptoRow.holds Try.pinned (OpenSpec.upto typesRoundSpec)

end Rows
end Go.Proofs.Ythonnpjlkcjoeaa
