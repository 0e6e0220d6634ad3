/- FaultNone, proved: whatever the input the law returns true and leaves its arguments as they read; with its tied card. No condition of its own: the form's own reach, and what the row lists of the library's tables. -/
import Derived.Test.YtkebplifkkhhlaaDoorFltN
import Derived.Test.YtkebplifkkhhlaaDoorCards
import Derived.Test.YtkebplifkkhhlaaDoorTie
import Derived.WalkKit
import Derived.ProofKit
import Derived.OpenShut
import Derived.SizedLaws
import Derived.ShutString
import Derived.ChangeOld
import Derived.Deep.DeepHandedRow
import Derived.Lib.LaidTab
import Derived.LaidSub
import Derived.LaidHandle
namespace Go.Proofs.YtkebplifkkhhlaaDoor.F
open Go.RowKit Go.Proofs.YtkebplifkkhhlaaDoor.B Go.ChangeShapes Go.WideShapes Go.ChangeAt
open Go.ChangeMaps (open_string shut_string)
set_option linter.unusedVariables false

theorem ownFaultNone : ownKnob Tryd.prog.godebug = none := by kernel_rfl
theorem laidOutFaultNone : laidOutB Tryd.prog = true := by kernel_rfl
theorem gTabFaultNone : Tryd.prog.globalNamed "internal/strconv.uint64pow10" = some 1 := by kernel_rfl
theorem gTypeFaultNone : (Tryd.prog.globals[1]?).map (·.type) = some 266 := by kernel_rfl
theorem cellsTFaultNone : Tryd.prog.cellsOf 266 = 20 := by kernel_rfl
theorem cellsEFaultNone : Tryd.prog.cellsOf 253 = 1 := by kernel_rfl
theorem keepFaultNone : (Rows.faultNoneRow.laid.filter fun x => x.1 == "internal/strconv.uint64pow10") = [("internal/strconv.uint64pow10", Lib.tabData .u64 Lib.pow10Tab)] := by kernel_rfl
theorem tableFaultNone {W : World} (h : laidMetH Tryd.prog Rows.faultNoneRow.laid W) : Lib.TabBelow Tryd.prog W.heap.size W "internal/strconv.uint64pow10" .u64 Lib.pow10Tab := by
  have h2 := h.filter fun x => x.1 == "internal/strconv.uint64pow10"
  rw [keepFaultNone] at h2
  exact Lib.tabBelow_of_tabIs (Lib.tabIs_of_head (rest := []) gTabFaultNone gTypeFaultNone Tryd.underlying266 Tryd.underlying253 cellsEFaultNone cellsTFaultNone h2)

theorem etFaultNone : Tryd.prog.globalNamed "errors.errorType" = some 0 := by kernel_rfl
theorem rtFaultNone : (Tryd.prog.cutTypes.find? (·.1 == "internal/reflectlite.rtype")).map (·.2) = some 180 := by kernel_rfl
theorem oneRowFaultNone : ((List.range Tryd.prog.types.size).filter fun t => Tryd.prog.rowNamed t [101, 114, 114, 111, 114]) = [28] := by kernel_rfl
theorem keepEFaultNone : (Rows.faultNoneRow.laid.filter fun x => x.1 == "errors.errorType") = [("errors.errorType", Rows.laid_errors_errorType)] := by kernel_rfl
theorem hanFaultNone {W : World} (h : laidMetH Tryd.prog Rows.faultNoneRow.laid W) : Han W := by
  have h2 := h.filter fun x => x.1 == "errors.errorType"
  rw [keepEFaultNone] at h2
  have h' : laidMet Tryd.prog [] W ∧ handlesMet Tryd.prog [("errors.errorType", Rows.laid_errors_errorType)] W := h2
  obtain ⟨name, u, ty, e1, e2, e3, e4, e5⟩ := h'.2 _ (List.mem_singleton.2 rfl)
  have en : name = [101, 114, 114, 111, 114] := (Option.some.inj e1).symm
  subst en
  obtain rfl := Option.some.inj (rtFaultNone.symm.trans e2)
  have hm : ty ∈ (List.range Tryd.prog.types.size).filter fun t => Tryd.prog.rowNamed t [101, 114, 114, 111, 114] := List.mem_filter.2 ⟨List.mem_range.2 e3, e4⟩
  rw [oneRowFaultNone] at hm
  obtain rfl := List.mem_singleton.1 hm
  have hh : typeHandle Tryd.prog 28 = .pointer (some ⟨5, 28, none⟩) := by kernel_rfl
  rw [hh] at e5
  show W.cell? ⟨0, 0, none⟩ = _
  simpa using World.var?_cell etFaultNone e5 0

set_option maxRecDepth 100000 in
theorem contractFaultNone (H : Type) (enc : TypeId × Value → H) (W : World) (base : Nat) (args : Array Value) (ds gs : List (DataW H)) (before : List MemPlace)
    (hval0 : ∀ (j : Nat) t v, Tryd.f5.params[j]? = some t → args[j]? = some v → Value.okWide Tryd.prog W .any base t v)
    (hW : DataW.Whole enc Tryd.prog Tryd.f5.params.toList Rows.faultNoneSpec.vars false W args.toList ds gs before)
    (hsz0 : (DataW.weightsEach Tryd.prog (Tryd.f5.params.toList ++ Rows.faultNoneSpec.plain.varTypes Tryd.prog) (ds ++ gs)).all (· ≤ reachBytes) = true) (hL : laidMetH Tryd.prog Rows.faultNoneRow.laid W) (hSh : W.ShapedOpen Tryd.prog) :
    Calls Tryd.prog 5 args W fun e W' => ∃ v, e = .returned v ∧ Rows.faultNoneSpec.post enc Tryd.prog Tryd.f5 false true false false W args v W' := by
  have ht := tableFaultNone hL
  have hh := hanFaultNone hL
  have hsz : (DataW.weightsEach Tryd.prog (Tryd.f5.params.toList ++ Rows.faultNoneSpec.plain.varTypes Tryd.prog) (ds ++ gs)).all (· ≤ reachBytes) = true := hsz0
  have hval : ∀ (j : Nat) t v, Tryd.f5.params[j]? = some t → args[j]? = some v → Value.okWide Tryd.prog W .any base t v := hval0
  have hW' := hW
  obtain ⟨p, q, hA0, hV, rfl, hfz, hnd⟩ := hW
  have hA : DataW.TrodAll enc Tryd.prog W 0 (fun _ => true) true Tryd.f5.params.toList args.toList ds p := hA0
  rw [Tryd.params5] at hA hval hsz
  obtain ⟨v0, vs0, d0, ds0, p0, q0, hargs, rfl, rfl, h0, r0⟩ := trodAll_cons hA
  obtain ⟨v1, vs1, d1, ds1, p1, q1, rfl, rfl, rfl, h1, r1⟩ := trodAll_cons r0
  obtain ⟨rfl, rfl, rfl⟩ := trodAll_nil r1
  obtain rfl : args = #[v0, v1] := by cases args; simp_all
  obtain ⟨rfl, rfl⟩ := trodVars_none hV
  obtain ⟨s0, rfl, rfl, rfl, hm0⟩ := open_string Tryd.underlying9 (hval 0 9 v0 rfl rfl) h0
  have hz0 : s0.size ≤ 140737488351232 := by have := sized_string hsz (j := 0) (t := 9) rfl rfl; simpa [reachBytes] using this
  obtain ⟨n1, rfl, rfl, rfl, w1⟩ := open_int Tryd.underlying3 (hval 1 3 v1 rfl rfl) h1
  have hb1 := bounds_i64 w1
  clear hA0 hval0
  refine (faultNone_walk s0 n1 W (by omega) hb1.1 hb1.2 hh ht).mono fun e W' ⟨he, bel⟩ => ?_
  subst he
  exact ⟨_, rfl, _, _, _, [], _, [], hW', trodAll_mk1 (shut_bool Tryd.underlying4 _), (trodAll_cons_mk (shut_string Tryd.underlying9 hm0) (trodAll_cons_mk (shut_int Tryd.underlying3 w1) trodAll_mk0)), rfl, bel.frame _, fun h => by cases h⟩

def layEFaultNone : Obj → Obj
  | .cells _ t frozen => .cells #[.iface 180 (.agg #[.pointer (some ⟨5, 28, none⟩)])] t frozen
  | o => o
def cellsFaultNone : DataW Unit → Array Value
  | .agg l => (l.map fun | .lit (.int k z) => Value.int k z | _ => .int .u8 0).toArray
  | _ => #[]
def layFaultNone (d : DataW Unit) : Obj → Obj
  | .cells _ t frozen => .cells (cellsFaultNone d) t frozen
  | o => o
noncomputable def laidWorldFaultNone (os : Os) : World := { World.holding Tryd.prog os ⟨#[], #[], []⟩ with heap := (((((World.holding Tryd.prog os ⟨#[], #[], []⟩).heap.modify 2 (layFaultNone Rows.laid_math_bits_deBruijn32tab)).modify 3 (layFaultNone Rows.laid_math_bits_deBruijn64tab)).modify 1 (layFaultNone Rows.laid_internal_strconv_uint64pow10)).modify 0 layEFaultNone) }
theorem laid_metFaultNone (os : Os) : laidMetH Tryd.prog Rows.faultNoneRow.laid ((laidWorldFaultNone os).forCall (fun _ _ => 0) ⟨#[], #[.string ⟨#[]⟩, .int .i64 0], []⟩).memory :=
  laidMetH_of_parts (laidMet_of_run' 30 (by kernel_rfl) (by kernel_rfl)) (by kernel_rfl)
theorem readsFaultNone (os : Os) {H : Type} (enc : TypeId × Value → H) : ∃ places, DataW.whole enc Tryd.prog ((laidWorldFaultNone os).forCall (fun _ _ => 0) ⟨#[], #[.string ⟨#[]⟩, .int .i64 0], []⟩).memory Tryd.f5.params.toList Rows.faultNoneSpec.vars false (#[.string ⟨#[]⟩, .int .i64 0] : Array Value).toList 8 = some ([.lit (.string []), .lit (.int .i64 0)], [], places) :=
  ⟨[], by kernel_rfl⟩

set_option maxRecDepth 100000 in
theorem liftedFaultNone (os : Os) (started : os.Started) (H : Type) (enc : TypeId × Value → H) (F : Stop.Interp) :
    ReturnsInHanded {} Tryd.checked os 5 .any ((OpenSpec.ofChange Rows.faultNoneSpec).preRow enc Tryd.prog Tryd.f5 Rows.faultNoneRow.domain false Rows.faultNoneRow.laid) (((OpenSpec.ofChange Rows.faultNoneSpec).at F).post enc Tryd.prog Tryd.f5 false true false false) := by
  obtain ⟨places, hx⟩ := readsFaultNone os enc
  refine returnsInHanded_of_row (C := Tryd.checked) (s := OpenSpec.ofChange Rows.faultNoneSpec) ownFaultNone started (by kernel_rfl) Tryd.func5
    (witness_row_at (enc := enc) (C := Tryd.checked) false (laidWorldFaultNone os) #[.string ⟨#[]⟩, .int .i64 0] rfl (by kernel_rfl) (by kernel_rfl) (by kernel_rfl)
      (OpenSpec.preRow_of_cond 8 hx (by kernel_rfl) (fun k hk => by cases hk) (by kernel_rfl) (laid_metFaultNone os))) ?_
  intro W base args ds gs before hval hW _ _ hsz hL hSh _
  exact contractFaultNone H enc W base args ds gs before hval hW hsz hL hSh

theorem saidFaultNone : Rows.FaultNoneSaid :=
  OpenClaim.holds_of_cond 5 Tryd.f5 rfl rfl rfl rfl rfl rfl rfl ⟨rfl, rfl, rfl, rfl, rfl⟩ rfl rfl rfl rfl rfl (by kernel_rfl) Tryd.func5 (by kernel_rfl)
    (of_decide_eq_true (by kernel_rfl)) (by unfold Func.isWrapper; first | (rw [if_pos (by decide +kernel)]; kernel_rfl) | (rw [if_neg (by decide +kernel)]; exact ⟨rfl, rfl⟩))
    (fun os started H enc _ F => by rw [OpenClaim.pre_eq_preRow]; exact liftedFaultNone os started H enc F)

theorem plainFaultNone (f : FuncId) (fn : Func) (hf : Tryd.pinned.checked.prog.funcNamed "culprit/culpritlaw28.FaultNone" = some f) (hfn : Tryd.pinned.checked.prog.funcs[f]? = some fn) :
    true = Tryd.pinned.checked.prog.looks [] ∧ ∀ (j : Nat) t, fn.params[j]? = some t → Tryd.pinned.checked.prog.wantsStandIn t = false := by
  obtain rfl : f = 5 := Option.some.inj ((show Tryd.prog.funcNamed "culprit/culpritlaw28.FaultNone" = some 5 by kernel_rfl).symm.trans hf) |>.symm
  obtain rfl : fn = Tryd.f5 := (Option.some.inj (Tryd.func5.symm.trans hfn)).symm
  refine ⟨by kernel_rfl, fun j t ht => ?_⟩
  rw [Tryd.params5] at ht
  have hm := Array.mem_of_getElem? ht
  simp only [List.mem_toArray, List.mem_cons, List.not_mem_nil, or_false] at hm
  rcases hm with rfl | rfl
  · exact (show Tryd.prog.wantsStandIn 9 = false by kernel_rfl)
  · exact (show Tryd.prog.wantsStandIn 3 = false by kernel_rfl)

theorem faultNone_card : Rows.FaultNoneCardSaid :=
  Claim7.holds_tied_plain_at .later [] _ _ _ _ saidFaultNone (fun _ h => by cases h) (by kernel_rfl) (fun _ h => by cases h) faultNone_row_tie rfl ⟨rfl, rfl⟩ (by kernel_rfl) rfl plainFaultNone (by kernel_rfl)
#print axioms faultNone_card
end Go.Proofs.YtkebplifkkhhlaaDoor.F
