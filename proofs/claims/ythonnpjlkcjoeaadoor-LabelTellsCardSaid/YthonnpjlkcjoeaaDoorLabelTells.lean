/- LabelTells, proved: whatever the input the law returns true and leaves its arguments as they read; with its tied card. No condition of its own: the form's own reach, and what the row lists of the library's tables. -/
import Derived.Test.YthonnpjlkcjoeaaDoorLabelM
import Derived.Test.YthonnpjlkcjoeaaDoorSitesIn
import Derived.Test.YthonnpjlkcjoeaaDoorCards
import Derived.Test.YthonnpjlkcjoeaaDoorTie
import Derived.WalkKit
import Derived.ProofKit
import Derived.OpenShut
import Derived.SizedLaws
import Derived.ShutString
import Derived.ChangeOld
import Derived.Deep.DeepHandedRow
import Derived.Lib.LaidTab
import Derived.LaidSub
namespace Go.Proofs.YthonnpjlkcjoeaaDoor.La
open Go.RowKit Go.Proofs.YthonnpjlkcjoeaaDoor.B Go.ChangeShapes Go.WideShapes Go.ChangeAt
open Go.ChangeMaps (open_string shut_string)
set_option linter.unusedVariables false

theorem ownLabelTells : ownKnob Tryd.prog.godebug = none := by kernel_rfl
theorem laidOutLabelTells : laidOutB Tryd.prog = true := by kernel_rfl
theorem gTabLabelTells : Tryd.prog.globalNamed "internal/strconv.uint64pow10" = some 0 := by kernel_rfl
theorem gTypeLabelTells : (Tryd.prog.globals[0]?).map (·.type) = some 209 := by kernel_rfl
theorem cellsTLabelTells : Tryd.prog.cellsOf 209 = 20 := by kernel_rfl
theorem cellsELabelTells : Tryd.prog.cellsOf 179 = 1 := by kernel_rfl
theorem keepLabelTells : (Rows.labelTellsRow.laid.filter fun x => x.1 == "internal/strconv.uint64pow10") = [("internal/strconv.uint64pow10", Lib.tabData .u64 Lib.pow10Tab)] := by kernel_rfl
theorem tableLabelTells {W : World} (h : laidMetH Tryd.prog Rows.labelTellsRow.laid W) : Lib.TabBelow Tryd.prog W.heap.size W "internal/strconv.uint64pow10" .u64 Lib.pow10Tab := by
  have h2 := h.filter fun x => x.1 == "internal/strconv.uint64pow10"
  rw [keepLabelTells] at h2
  exact Lib.tabBelow_of_tabIs (Lib.tabIs_of_head (rest := []) gTabLabelTells gTypeLabelTells Tryd.underlying209 Tryd.underlying179 cellsELabelTells cellsTLabelTells h2)

set_option maxRecDepth 100000 in
theorem contractLabelTells (H : Type) (enc : TypeId × Value → H) (W : World) (base : Nat) (args : Array Value) (ds gs : List (DataW H)) (before : List MemPlace)
    (hval0 : ∀ (j : Nat) t v, Tryd.f3.params[j]? = some t → args[j]? = some v → Value.okWide Tryd.prog W .any base t v)
    (hW : DataW.Whole enc Tryd.prog Tryd.f3.params.toList Rows.labelTellsSpec.vars false W args.toList ds gs before)
    (hsz0 : (DataW.weightsEach Tryd.prog (Tryd.f3.params.toList ++ Rows.labelTellsSpec.plain.varTypes Tryd.prog) (ds ++ gs)).all (· ≤ reachBytes) = true) (hL : laidMetH Tryd.prog Rows.labelTellsRow.laid W) (hSh : W.ShapedOpen Tryd.prog) :
    Calls Tryd.prog 3 args W fun e W' => ∃ v, e = .returned v ∧ Rows.labelTellsSpec.post enc Tryd.prog Tryd.f3 false true false false W args v W' := by
  have ht := tableLabelTells hL
  have hsz : (DataW.weightsEach Tryd.prog (Tryd.f3.params.toList ++ Rows.labelTellsSpec.plain.varTypes Tryd.prog) (ds ++ gs)).all (· ≤ reachBytes) = true := hsz0
  have hval : ∀ (j : Nat) t v, Tryd.f3.params[j]? = some t → args[j]? = some v → Value.okWide Tryd.prog W .any base t v := hval0
  have hW' := hW
  obtain ⟨p, q, hA0, hV, rfl, hfz, hnd⟩ := hW
  have hA : DataW.TrodAll enc Tryd.prog W 0 (fun _ => true) true Tryd.f3.params.toList args.toList ds p := hA0
  rw [Tryd.params3] at hA hval hsz
  obtain ⟨v0, vs0, d0, ds0, p0, q0, hargs, rfl, rfl, h0, r0⟩ := trodAll_cons hA
  obtain ⟨v1, vs1, d1, ds1, p1, q1, rfl, rfl, rfl, h1, r1⟩ := trodAll_cons r0
  obtain ⟨v2, vs2, d2, ds2, p2, q2, rfl, rfl, rfl, h2, r2⟩ := trodAll_cons r1
  obtain ⟨rfl, rfl, rfl⟩ := trodAll_nil r2
  obtain rfl : args = #[v0, v1, v2] := by cases args; simp_all
  obtain ⟨rfl, rfl⟩ := trodVars_none hV
  obtain ⟨a0, len0, cap0, rfl⟩ := okWide_slice Tryd.underlying22 (hval 0 22 v0 rfl rfl)
  have k0 := h0
  have lt0 : ∀ x ∈ p0, x.block < W.heap.size := by obtain ⟨m, hm⟩ := k0; exact DataW.trod_lt m _ _ _ hm
  obtain ⟨fuel0, hf0⟩ := h0
  obtain ⟨l0, rfl, hsl0, hok0, hrs0, hrl0, hlc0, hcm0⟩ := open_sites hf0 (fun n hn => by
    have := List.all_eq_true.1 hsz n (DataW.weights_mem_each (j := 0) (t := 22) (d := d0) rfl rfl n hn)
    simpa using this)
  simp only [reachBytes] at hrs0 hrl0
  obtain ⟨n1, rfl, rfl, rfl, w1⟩ := open_int Tryd.underlying2 (hval 1 2 v1 rfl rfl) h1
  have hb1 := bounds_i64 w1
  obtain ⟨n2, rfl, rfl, rfl, w2⟩ := open_int Tryd.underlying3 (hval 2 3 v2 rfl rfl) h2
  have hb2 := bounds_i64 w2
  clear hA0 hval0
  refine (tells_any l0 a0 cap0 n1 n2 W hb1.1 hb1.2 hb2.1 hb2.2 (by omega) hrs0 hok0 hsl0 ht).mono fun e W' ⟨he, bel⟩ => ?_
  subst he
  exact ⟨_, rfl, _, _, _, [], _, [], hW', trodAll_mk1 (shut_bool Tryd.underlying4 _), (trodAll_cons_mk (Below.trod laidOutLabelTells (by kernel_rfl) (of_decide_eq_true (by kernel_rfl)) k0 bel lt0) (trodAll_cons_mk (shut_int Tryd.underlying2 w1) (trodAll_cons_mk (shut_int Tryd.underlying3 w2) trodAll_mk0))), rfl, bel.frame _, fun h => by cases h⟩

def cellsLabelTells : DataW Unit → Array Value
  | .agg l => (l.map fun | .lit (.int k z) => Value.int k z | _ => .int .u8 0).toArray
  | _ => #[]
def layLabelTells (d : DataW Unit) : Obj → Obj
  | .cells _ t frozen => .cells (cellsLabelTells d) t frozen
  | o => o
noncomputable def laidWorldLabelTells (os : Os) : World := { World.holding Tryd.prog os ⟨#[], #[], []⟩ with heap := ((((World.holding Tryd.prog os ⟨#[], #[], []⟩).heap.modify 2 (layLabelTells Rows.laid_math_bits_deBruijn32tab)).modify 3 (layLabelTells Rows.laid_math_bits_deBruijn64tab)).modify 0 (layLabelTells Rows.laid_internal_strconv_uint64pow10)) }
theorem laid_metLabelTells (os : Os) : laidMet Tryd.prog Rows.labelTellsRow.laid ((laidWorldLabelTells os).forCall (fun _ _ => 0) ⟨#[], #[.slice none 0 0, .int .i64 0, .int .i64 0], []⟩).memory :=
  laidMet_of_run' 30 (by kernel_rfl) (by kernel_rfl)
theorem readsLabelTells (os : Os) {H : Type} (enc : TypeId × Value → H) : ∃ places, DataW.whole enc Tryd.prog ((laidWorldLabelTells os).forCall (fun _ _ => 0) ⟨#[], #[.slice none 0 0, .int .i64 0, .int .i64 0], []⟩).memory Tryd.f3.params.toList Rows.labelTellsSpec.vars false (#[.slice none 0 0, .int .i64 0, .int .i64 0] : Array Value).toList 8 = some ([.nil, .lit (.int .i64 0), .lit (.int .i64 0)], [], places) :=
  ⟨[], by kernel_rfl⟩

set_option maxRecDepth 100000 in
theorem liftedLabelTells (os : Os) (started : os.Started) (H : Type) (enc : TypeId × Value → H) (F : Stop.Interp) :
    ReturnsInHanded {} Tryd.checked os 3 .any ((OpenSpec.ofChange Rows.labelTellsSpec).preRow enc Tryd.prog Tryd.f3 Rows.labelTellsRow.domain false Rows.labelTellsRow.laid) (((OpenSpec.ofChange Rows.labelTellsSpec).at F).post enc Tryd.prog Tryd.f3 false true false false) := by
  obtain ⟨places, hx⟩ := readsLabelTells os enc
  refine returnsInHanded_of_row (C := Tryd.checked) (s := OpenSpec.ofChange Rows.labelTellsSpec) ownLabelTells started (by kernel_rfl) Tryd.func3
    (witness_row_at (enc := enc) (C := Tryd.checked) false (laidWorldLabelTells os) #[.slice none 0 0, .int .i64 0, .int .i64 0] rfl (by kernel_rfl) (by kernel_rfl) (by kernel_rfl)
      (OpenSpec.preRow_of_cond 8 hx (by kernel_rfl) (fun k hk => by cases hk) (by kernel_rfl) (laid_metLabelTells os))) ?_
  intro W base args ds gs before hval hW _ _ hsz hL hSh _
  exact contractLabelTells H enc W base args ds gs before hval hW hsz hL hSh

theorem saidLabelTells : Rows.LabelTellsSaid :=
  OpenClaim.holds_of_cond 3 Tryd.f3 rfl rfl rfl rfl rfl rfl rfl ⟨rfl, rfl, rfl, rfl, rfl⟩ rfl rfl rfl rfl rfl (by kernel_rfl) Tryd.func3 (by kernel_rfl)
    (of_decide_eq_true (by kernel_rfl)) (by unfold Func.isWrapper; first | (rw [if_pos (by decide +kernel)]; kernel_rfl) | (rw [if_neg (by decide +kernel)]; exact ⟨rfl, rfl⟩))
    (fun os started H enc _ F => by rw [OpenClaim.pre_eq_preRow]; exact liftedLabelTells os started H enc F)

theorem plainLabelTells (f : FuncId) (fn : Func) (hf : Tryd.pinned.checked.prog.funcNamed "culprit/culpritlaw09.LabelTells" = some f) (hfn : Tryd.pinned.checked.prog.funcs[f]? = some fn) :
    false = Tryd.pinned.checked.prog.looks [] ∧ ∀ (j : Nat) t, fn.params[j]? = some t → Tryd.pinned.checked.prog.wantsStandIn t = false := by
  obtain rfl : f = 3 := Option.some.inj ((show Tryd.prog.funcNamed "culprit/culpritlaw09.LabelTells" = some 3 by kernel_rfl).symm.trans hf) |>.symm
  obtain rfl : fn = Tryd.f3 := (Option.some.inj (Tryd.func3.symm.trans hfn)).symm
  refine ⟨by kernel_rfl, fun j t ht => ?_⟩
  rw [Tryd.params3] at ht
  have hm := Array.mem_of_getElem? ht
  simp only [List.mem_toArray, List.mem_cons, List.not_mem_nil, or_false] at hm
  rcases hm with rfl | rfl | rfl
  · exact (show Tryd.prog.wantsStandIn 22 = false by kernel_rfl)
  · exact (show Tryd.prog.wantsStandIn 2 = false by kernel_rfl)
  · exact (show Tryd.prog.wantsStandIn 3 = false by kernel_rfl)

theorem labelTells_card : Rows.LabelTellsCardSaid :=
  Claim7.holds_tied_plain_at .later [] _ _ _ _ saidLabelTells (fun _ h => by cases h) (by kernel_rfl) (fun _ h => by cases h) labelTells_row_tie rfl ⟨rfl, rfl⟩ (by kernel_rfl) rfl plainLabelTells (by kernel_rfl)
#print axioms labelTells_card
end Go.Proofs.YthonnpjlkcjoeaaDoor.La
