/- FaultWraps, proved: whatever the input the law returns true and leaves its arguments as they read; with its tied card. No condition of its own: the form's own reach, and what the row lists of the library's tables. -/
import Derived.Test.YtkebplifkkhhlaaDoorWrpB
import Derived.Test.YtkebplifkkhhlaaDoorSitesIn
import Derived.Test.YtkebplifkkhhlaaDoorSeenIn
import Derived.Test.YtkebplifkkhhlaaDoorTextsIn
import Derived.Test.YtkebplifkkhhlaaDoorCards
import Derived.Test.YtkebplifkkhhlaaDoorTie
import Derived.WalkKit
import Derived.ProofKit
import Derived.OpenShut
import Derived.SizedLaws
import Derived.ShutString
import Derived.ChangeOld
import Derived.Deep.DeepHandedRow
import Derived.Lib.LaidTab
import Derived.LaidSub
import Derived.LaidHandle
namespace Go.Proofs.YtkebplifkkhhlaaDoor.F
open Go.RowKit Go.Proofs.YtkebplifkkhhlaaDoor.B Go.ChangeShapes Go.WideShapes Go.ChangeAt
open Go.ChangeMaps (open_string shut_string)
set_option linter.unusedVariables false

open Go.Proofs.YtkebplifkkhhlaaDoor.La (open_sites)

open Go.Proofs.YtkebplifkkhhlaaDoor.T (open_texts)

theorem ownFaultWraps : ownKnob Tryd.prog.godebug = none := by kernel_rfl
theorem laidOutFaultWraps : laidOutB Tryd.prog = true := by kernel_rfl
theorem gTabFaultWraps : Tryd.prog.globalNamed "internal/strconv.uint64pow10" = some 1 := by kernel_rfl
theorem gTypeFaultWraps : (Tryd.prog.globals[1]?).map (·.type) = some 266 := by kernel_rfl
theorem cellsTFaultWraps : Tryd.prog.cellsOf 266 = 20 := by kernel_rfl
theorem cellsEFaultWraps : Tryd.prog.cellsOf 253 = 1 := by kernel_rfl
theorem keepFaultWraps : (Rows.faultWrapsRow.laid.filter fun x => x.1 == "internal/strconv.uint64pow10") = [("internal/strconv.uint64pow10", Lib.tabData .u64 Lib.pow10Tab)] := by kernel_rfl
theorem tableFaultWraps {W : World} (h : laidMetH Tryd.prog Rows.faultWrapsRow.laid W) : Lib.TabBelow Tryd.prog W.heap.size W "internal/strconv.uint64pow10" .u64 Lib.pow10Tab := by
  have h2 := h.filter fun x => x.1 == "internal/strconv.uint64pow10"
  rw [keepFaultWraps] at h2
  exact Lib.tabBelow_of_tabIs (Lib.tabIs_of_head (rest := []) gTabFaultWraps gTypeFaultWraps Tryd.underlying266 Tryd.underlying253 cellsEFaultWraps cellsTFaultWraps h2)

theorem etFaultWraps : Tryd.prog.globalNamed "errors.errorType" = some 0 := by kernel_rfl
theorem rtFaultWraps : (Tryd.prog.cutTypes.find? (·.1 == "internal/reflectlite.rtype")).map (·.2) = some 180 := by kernel_rfl
theorem oneRowFaultWraps : ((List.range Tryd.prog.types.size).filter fun t => Tryd.prog.rowNamed t [101, 114, 114, 111, 114]) = [28] := by kernel_rfl
theorem keepEFaultWraps : (Rows.faultWrapsRow.laid.filter fun x => x.1 == "errors.errorType") = [("errors.errorType", Rows.laid_errors_errorType)] := by kernel_rfl
theorem hanFaultWraps {W : World} (h : laidMetH Tryd.prog Rows.faultWrapsRow.laid W) : Han W := by
  have h2 := h.filter fun x => x.1 == "errors.errorType"
  rw [keepEFaultWraps] at h2
  have h' : laidMet Tryd.prog [] W ∧ handlesMet Tryd.prog [("errors.errorType", Rows.laid_errors_errorType)] W := h2
  obtain ⟨name, u, ty, e1, e2, e3, e4, e5⟩ := h'.2 _ (List.mem_singleton.2 rfl)
  have en : name = [101, 114, 114, 111, 114] := (Option.some.inj e1).symm
  subst en
  obtain rfl := Option.some.inj (rtFaultWraps.symm.trans e2)
  have hm : ty ∈ (List.range Tryd.prog.types.size).filter fun t => Tryd.prog.rowNamed t [101, 114, 114, 111, 114] := List.mem_filter.2 ⟨List.mem_range.2 e3, e4⟩
  rw [oneRowFaultWraps] at hm
  obtain rfl := List.mem_singleton.1 hm
  have hh : typeHandle Tryd.prog 28 = .pointer (some ⟨5, 28, none⟩) := by kernel_rfl
  rw [hh] at e5
  show W.cell? ⟨0, 0, none⟩ = _
  simpa using World.var?_cell etFaultWraps e5 0

set_option maxRecDepth 100000 in
theorem contractFaultWraps (H : Type) (enc : TypeId × Value → H) (W : World) (base : Nat) (args : Array Value) (ds gs : List (DataW H)) (before : List MemPlace)
    (hval0 : ∀ (j : Nat) t v, Tryd.f4.params[j]? = some t → args[j]? = some v → Value.okWide Tryd.prog W .any base t v)
    (hW : DataW.Whole enc Tryd.prog Tryd.f4.params.toList Rows.faultWrapsSpec.vars false W args.toList ds gs before)
    (hsz0 : (DataW.weightsEach Tryd.prog (Tryd.f4.params.toList ++ Rows.faultWrapsSpec.plain.varTypes Tryd.prog) (ds ++ gs)).all (· ≤ reachBytes) = true) (hL : laidMetH Tryd.prog Rows.faultWrapsRow.laid W) (hSh : W.ShapedOpen Tryd.prog) :
    Calls Tryd.prog 4 args W fun e W' => ∃ v, e = .returned v ∧ Rows.faultWrapsSpec.post enc Tryd.prog Tryd.f4 false true false false W args v W' := by
  have ht := tableFaultWraps hL
  have hh := hanFaultWraps hL
  have hsz : (DataW.weightsEach Tryd.prog (Tryd.f4.params.toList ++ Rows.faultWrapsSpec.plain.varTypes Tryd.prog) (ds ++ gs)).all (· ≤ reachBytes) = true := hsz0
  have hval : ∀ (j : Nat) t v, Tryd.f4.params[j]? = some t → args[j]? = some v → Value.okWide Tryd.prog W .any base t v := hval0
  have hW' := hW
  obtain ⟨p, q, hA0, hV, rfl, hfz, hnd⟩ := hW
  have hA : DataW.TrodAll enc Tryd.prog W 0 (fun _ => true) true Tryd.f4.params.toList args.toList ds p := hA0
  rw [Tryd.params4] at hA hval hsz
  obtain ⟨v0, vs0, d0, ds0, p0, q0, hargs, rfl, rfl, h0, r0⟩ := trodAll_cons hA
  obtain ⟨v1, vs1, d1, ds1, p1, q1, rfl, rfl, rfl, h1, r1⟩ := trodAll_cons r0
  obtain ⟨v2, vs2, d2, ds2, p2, q2, rfl, rfl, rfl, h2, r2⟩ := trodAll_cons r1
  obtain ⟨rfl, rfl, rfl⟩ := trodAll_nil r2
  obtain rfl : args = #[v0, v1, v2] := by cases args; simp_all
  obtain ⟨rfl, rfl⟩ := trodVars_none hV
  obtain ⟨a0, len0, cap0, rfl⟩ := okWide_slice Tryd.underlying22 (hval 0 22 v0 rfl rfl)
  have k0 := h0
  have lt0 : ∀ x ∈ p0, x.block < W.heap.size := by obtain ⟨m, hm⟩ := k0; exact DataW.trod_lt m _ _ _ hm
  obtain ⟨fuel0, hf0⟩ := h0
  obtain ⟨l0, rfl, hsl0, hok0, hrs0, hrl0, hlc0, hcm0⟩ := open_sites hf0 (fun n hn => by
    have := List.all_eq_true.1 hsz n (DataW.weights_mem_each (j := 0) (t := 22) (d := d0) rfl rfl n hn)
    simpa using this)
  simp only [reachBytes] at hrs0 hrl0
  obtain ⟨a1, len1, cap1, rfl⟩ := okWide_slice Tryd.underlying23 (hval 1 23 v1 rfl rfl)
  have k1 := h1
  have lt1 : ∀ x ∈ p1, x.block < W.heap.size := by obtain ⟨m, hm⟩ := k1; exact DataW.trod_lt m _ _ _ hm
  obtain ⟨fuel1, hf1⟩ := h1
  obtain ⟨l1, rfl, hsl1, hok1, hrs1, hrl1, hlc1, hcm1⟩ := open_seen hf1 (fun n hn => by
    have := List.all_eq_true.1 hsz n (DataW.weights_mem_each (j := 1) (t := 23) (d := d1) rfl rfl n hn)
    simpa using this)
  simp only [reachBytes] at hrl1
  obtain ⟨a2, len2, cap2, rfl⟩ := okWide_slice Tryd.underlying45 (hval 2 45 v2 rfl rfl)
  have k2 := h2
  have lt2 : ∀ x ∈ p2, x.block < W.heap.size := by obtain ⟨m, hm⟩ := k2; exact DataW.trod_lt m _ _ _ hm
  obtain ⟨fuel2, hf2⟩ := h2
  obtain ⟨l2, rfl, hsl2, hrs2, hrl2, hlc2, hcm2⟩ := open_texts hf2 (fun n hn => by
    have := List.all_eq_true.1 hsz n (DataW.weights_mem_each (j := 2) (t := 45) (d := d2) rfl rfl n hn)
    simpa using this)
  simp only [reachBytes] at hrs2 hrl2
  clear hA0 hval0
  refine (faultWraps_walk l0 a0 cap0 l1 a1 cap1 l2 a2 cap2 W (by omega) (by omega) (by omega) (fun s hs => by have := hrs0 s hs; omega) hok1 (fun s hs => by have := hrs2 s hs; omega) hsl0 hsl1 hsl2 hh ht).mono fun e W' ⟨he, bel⟩ => ?_
  subst he
  exact ⟨_, rfl, _, _, _, [], _, [], hW', trodAll_mk1 (shut_bool Tryd.underlying4 _), (trodAll_cons_mk (Below.trod laidOutFaultWraps (by kernel_rfl) (of_decide_eq_true (by kernel_rfl)) k0 bel lt0) (trodAll_cons_mk (Below.trod laidOutFaultWraps (by kernel_rfl) (of_decide_eq_true (by kernel_rfl)) k1 bel lt1) (trodAll_cons_mk (Below.trod laidOutFaultWraps (by kernel_rfl) (of_decide_eq_true (by kernel_rfl)) k2 bel lt2) trodAll_mk0))), rfl, bel.frame _, fun h => by cases h⟩

def layEFaultWraps : Obj → Obj
  | .cells _ t frozen => .cells #[.iface 180 (.agg #[.pointer (some ⟨5, 28, none⟩)])] t frozen
  | o => o
def cellsFaultWraps : DataW Unit → Array Value
  | .agg l => (l.map fun | .lit (.int k z) => Value.int k z | _ => .int .u8 0).toArray
  | _ => #[]
def layFaultWraps (d : DataW Unit) : Obj → Obj
  | .cells _ t frozen => .cells (cellsFaultWraps d) t frozen
  | o => o
noncomputable def laidWorldFaultWraps (os : Os) : World := { World.holding Tryd.prog os ⟨#[], #[], []⟩ with heap := (((((World.holding Tryd.prog os ⟨#[], #[], []⟩).heap.modify 2 (layFaultWraps Rows.laid_math_bits_deBruijn32tab)).modify 3 (layFaultWraps Rows.laid_math_bits_deBruijn64tab)).modify 1 (layFaultWraps Rows.laid_internal_strconv_uint64pow10)).modify 0 layEFaultWraps) }
theorem laid_metFaultWraps (os : Os) : laidMetH Tryd.prog Rows.faultWrapsRow.laid ((laidWorldFaultWraps os).forCall (fun _ _ => 0) ⟨#[], #[.slice none 0 0, .slice none 0 0, .slice none 0 0], []⟩).memory :=
  laidMetH_of_parts (laidMet_of_run' 30 (by kernel_rfl) (by kernel_rfl)) (by kernel_rfl)
theorem readsFaultWraps (os : Os) {H : Type} (enc : TypeId × Value → H) : ∃ places, DataW.whole enc Tryd.prog ((laidWorldFaultWraps os).forCall (fun _ _ => 0) ⟨#[], #[.slice none 0 0, .slice none 0 0, .slice none 0 0], []⟩).memory Tryd.f4.params.toList Rows.faultWrapsSpec.vars false (#[.slice none 0 0, .slice none 0 0, .slice none 0 0] : Array Value).toList 8 = some ([.nil, .nil, .nil], [], places) :=
  ⟨[], by kernel_rfl⟩

set_option maxRecDepth 100000 in
theorem liftedFaultWraps (os : Os) (started : os.Started) (H : Type) (enc : TypeId × Value → H) (F : Stop.Interp) :
    ReturnsInHanded {} Tryd.checked os 4 .any ((OpenSpec.ofChange Rows.faultWrapsSpec).preRow enc Tryd.prog Tryd.f4 Rows.faultWrapsRow.domain false Rows.faultWrapsRow.laid) (((OpenSpec.ofChange Rows.faultWrapsSpec).at F).post enc Tryd.prog Tryd.f4 false true false false) := by
  obtain ⟨places, hx⟩ := readsFaultWraps os enc
  refine returnsInHanded_of_row (C := Tryd.checked) (s := OpenSpec.ofChange Rows.faultWrapsSpec) ownFaultWraps started (by kernel_rfl) Tryd.func4
    (witness_row_at (enc := enc) (C := Tryd.checked) false (laidWorldFaultWraps os) #[.slice none 0 0, .slice none 0 0, .slice none 0 0] rfl (by kernel_rfl) (by kernel_rfl) (by kernel_rfl)
      (OpenSpec.preRow_of_cond 8 hx (by kernel_rfl) (fun k hk => by cases hk) (by kernel_rfl) (laid_metFaultWraps os))) ?_
  intro W base args ds gs before hval hW _ _ hsz hL hSh _
  exact contractFaultWraps H enc W base args ds gs before hval hW hsz hL hSh

theorem saidFaultWraps : Rows.FaultWrapsSaid :=
  OpenClaim.holds_of_cond 4 Tryd.f4 rfl rfl rfl rfl rfl rfl rfl ⟨rfl, rfl, rfl, rfl, rfl⟩ rfl rfl rfl rfl rfl (by kernel_rfl) Tryd.func4 (by kernel_rfl)
    (of_decide_eq_true (by kernel_rfl)) (by unfold Func.isWrapper; first | (rw [if_pos (by decide +kernel)]; kernel_rfl) | (rw [if_neg (by decide +kernel)]; exact ⟨rfl, rfl⟩))
    (fun os started H enc _ F => by rw [OpenClaim.pre_eq_preRow]; exact liftedFaultWraps os started H enc F)

theorem plainFaultWraps (f : FuncId) (fn : Func) (hf : Tryd.pinned.checked.prog.funcNamed "culprit/culpritlaw28.FaultWraps" = some f) (hfn : Tryd.pinned.checked.prog.funcs[f]? = some fn) :
    true = Tryd.pinned.checked.prog.looks [] ∧ ∀ (j : Nat) t, fn.params[j]? = some t → Tryd.pinned.checked.prog.wantsStandIn t = false := by
  obtain rfl : f = 4 := Option.some.inj ((show Tryd.prog.funcNamed "culprit/culpritlaw28.FaultWraps" = some 4 by kernel_rfl).symm.trans hf) |>.symm
  obtain rfl : fn = Tryd.f4 := (Option.some.inj (Tryd.func4.symm.trans hfn)).symm
  refine ⟨by kernel_rfl, fun j t ht => ?_⟩
  rw [Tryd.params4] at ht
  have hm := Array.mem_of_getElem? ht
  simp only [List.mem_toArray, List.mem_cons, List.not_mem_nil, or_false] at hm
  rcases hm with rfl | rfl | rfl
  · exact (show Tryd.prog.wantsStandIn 22 = false by kernel_rfl)
  · exact (show Tryd.prog.wantsStandIn 23 = false by kernel_rfl)
  · exact (show Tryd.prog.wantsStandIn 45 = false by kernel_rfl)

theorem faultWraps_card : Rows.FaultWrapsCardSaid :=
  Claim7.holds_tied_plain_at .later [] _ _ _ _ saidFaultWraps (fun _ h => by cases h) (by kernel_rfl) (fun _ h => by cases h) faultWraps_row_tie rfl ⟨rfl, rfl⟩ (by kernel_rfl) rfl plainFaultWraps (by kernel_rfl)
#print axioms faultWraps_card
end Go.Proofs.YtkebplifkkhhlaaDoor.F
