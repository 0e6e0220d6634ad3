/- CodeReads, proved: whatever the input the law returns true and leaves its arguments as they read; with its tied card. No condition of its own: the form's own reach, and what the row lists of the library's tables. -/
import Derived.Lib.LaidTab
import Derived.LaidSub
import Derived.WalkKit
import Derived.ProofKit
import Derived.OpenShut
import Derived.SizedLaws
import Derived.ShutString
import Derived.ChangeOld
import Derived.Deep.DeepHandedRow
import Derived.LaidHandle
import Derived.Test.YtobplngonkdbpaaGreatDoorP31
import Derived.Test.YtobplngonkdbpaaGreatDoorP28
import Derived.Test.YtobplngonkdbpaaGreatDoorP24
import Derived.Test.YtobplngonkdbpaaGreatDoorP06
import Derived.Test.YtobplngonkdbpaaGreatDoorCards
import Derived.Test.YtobplngonkdbpaaGreatDoorTie
set_option linter.unusedVariables false
set_option linter.unusedSimpArgs false
/- AnN -/
namespace Go.Proofs.YtobplngonkdbpaaGreatDoor.D
open Go.RowKit
open Go.Proofs.YtobplngonkdbpaaGreatDoor.B
set_option linter.unusedVariables false
set_option linter.unusedSimpArgs false

/-- What a text's reading says: the code, the error, the line. -/
noncomputable def codeOf (t : Bs) : Cod := match (readV t).1 with | some st => st.2 | none => Cod.nil
noncomputable def errOf (t : Bs) : Int := match (readV t).1 with | some _ => 0 | none => 60
noncomputable def lineOf (t : Bs) : Int := (readV t).2
/-- One way to tell both ends of a reading. -/
def ReadU (t : Bs) (w : World) (e : Ending) (w' : World) : Prop :=
  ∃ (A1 : Option Addr) (n1 c1 : Nat) (A2 : Option Addr) (n2 c2 : Nat) (A3 : Option Addr) (n3 c3 : Nat) (A4 : Option Addr) (n4 c4 : Nat) (A5 : Option Addr) (n5 c5 : Nat) (L : CoL), L.vals.toArray = #[.slice A1 n1 c1, .slice A2 n2 c2, .slice A3 n3 c3, .slice A4 n4 c4, .slice A5 n5 c5] ∧ L.code = codeOf t ∧ e = .returned (.tuple #[.agg #[.slice A1 n1 c1, .slice A2 n2 c2, .slice A3 n3 c3, .slice A4 n4 c4, .slice A5 n5 c5], .int .i64 (errOf t), .int .i64 (lineOf t)]) ∧ CR w' L ∧ Below w.heap.size w w'
theorem readU {t : Bs} {w w' : World} {e : Ending} (h : ReadQ t w e w') : ReadU t w e w' := by
  obtain ⟨hb, ⟨k, c, L, hr, hc, rfl, ho⟩ | ⟨n, hr, rfl⟩⟩ := h
  · obtain ⟨A1, c1, A2, c2, A3, c3, A4, c4, A5, c5, hv⟩ := own_vals ho
    refine ⟨A1, _, c1, A2, _, c2, A3, _, c3, A4, _, c4, A5, _, c5, L, hv, ?_, ?_, CR.of_own ho.own, hb⟩
    · unfold codeOf; rw [hr]; exact hc
    · unfold errOf lineOf; rw [hr, hv]; rfl
  · refine ⟨none, 0, 0, none, 0, 0, none, 0, 0, none, 0, 0, none, 0, 0, .nil, rfl, ?_, ?_, cr_nil _, hb⟩
    · unfold codeOf; rw [hr]; rfl
    · unfold errOf lineOf; rw [hr]; rfl

set_option maxRecDepth 100000 in
set_option maxHeartbeats 8000000 in
theorem codeReads_walk (t : Bs) (w : World) (ht : t.length ≤ 140737488355328) (hg : Gl w) :
    Calls Tryz.prog 4 #[strV t] w fun e w' => e = .returned (.bool true) ∧ Below w.heap.size w w' := by
  have HG := Lib.hid (fun W (hb : Below w.heap.size w W) => hg.on hb)
  have hz := str_size t
  have hg0 := hg
  unfold strV
  by_cases hl : t.length ≤ 65536
  rotate_left
  · have hl' : (65536 : Int) < (t.length : Int) := by omega
    have HL := Lib.hid (lives_c w hg0)
    clear hg hg0 hl
    go_enter Tryz.func4, Tryz.ntmps4
    go_wp2_with fail
    (refine HL.out.mono ?_); rintro e w2 ⟨rfl, hb2⟩
    go_wp2_with fail
    go_ret
    exact ⟨rfl, hb2⟩
  have hd : ¬ ((65536 : Int) < (t.length : Int)) := by omega
  have HP := Lib.hid (read_c t w (by omega) hg0)
  have HA := Lib.hid (fun W => readA_any t W (by omega))
  clear hg hg0 hl
  unfold strV at HP HA
  go_enter Tryz.func4, Tryz.ntmps4
  go_wp2_with fail
  refine HP.out.mono ?_
  intro e w2 hq
  obtain ⟨A1, n1, c1, A2, n2, c2, A3, n3, c3, A4, n4, c4, A5, n5, c5, L, hv, hcode, rfl, hcr, hb2⟩ := readU hq
  have HQ := Lib.hid (And.intro hv (And.intro hcode (And.intro hcr hb2)))
  clear hq hv hcode hcr hb2 HP
  go_upto_region 4 with fail
  obtain ⟨b3, hb3⟩ : ∃ b, w2.heap.size = b := ⟨_, rfl⟩
  obtain ⟨W3, hW3⟩ : ∃ W3, w2.alloc (.cells #[.slice A1 n1 c1, .slice A2 n2 c2, .slice A3 n3 c3, .slice A4 n4 c4, .slice A5 n5 c5] 27) = W3 := ⟨_, rfl⟩
  have H3 := Lib.hid (show Blk W3 b3 27 #[.slice A1 n1 c1, .slice A2 n2 c2, .slice A3 n3 c3, .slice A4 n4 c4, .slice A5 n5 c5] ∧ Below w2.heap.size w2 W3 from ⟨by rw [← hW3, ← hb3]; exact Blk.new _ _ _, by rw [← hW3]; exact bal b0 _⟩)
  rw [hW3, hb3]
  clear hW3 hb3
  go_wp2_with fail
  refine (HA.out W3).mono ?_
  intro e w4 hq
  obtain ⟨B1, m1, d1, B2, m2, d2, B3, m3, d3, B4, m4, d4, B5, m5, d5, L', hv, hcode, rfl, hcr, hb4⟩ := readU hq
  have HQ2 := Lib.hid (And.intro hv (And.intro hcode (And.intro hcr hb4)))
  clear hq hv hcode hcr hb4 HA
  go_upto_region 5 with fail
  obtain ⟨b5, hb5⟩ : ∃ b, w4.heap.size = b := ⟨_, rfl⟩
  obtain ⟨W5, hW5⟩ : ∃ W5, w4.alloc (.cells #[.slice B1 m1 d1, .slice B2 m2 d2, .slice B3 m3 d3, .slice B4 m4 d4, .slice B5 m5 d5] 27) = W5 := ⟨_, rfl⟩
  have hbb : Below w4.heap.size w4 W5 := by rw [← hW5]; exact bal b0 _
  have H5 := Lib.hid (show Blk W5 b5 27 #[.slice B1 m1 d1, .slice B2 m2 d2, .slice B3 m3 d3, .slice B4 m4 d4, .slice B5 m5 d5] ∧ Blk W5 b3 27 #[.slice A1 n1 c1, .slice A2 n2 c2, .slice A3 n3 c3, .slice A4 n4 c4, .slice A5 n5 c5] ∧ Below w.heap.size w W5 ∧ CR W5 L ∧ CR W5 L' from
    ⟨by rw [← hW5, ← hb5]; exact Blk.new _ _ _, H3.out.1.below (bl HQ2.out.2.2.2 hbb) H3.out.1.lt, bl HQ.out.2.2.2 (bl H3.out.2 (bl HQ2.out.2.2.2 hbb)), HQ.out.2.2.1.grow (bl H3.out.2 (bl HQ2.out.2.2.2 hbb)), HQ2.out.2.2.1.grow hbb⟩)
  rw [hW5, hb5]
  clear hW5 hb5 hbb
  obtain ⟨er, her⟩ : ∃ er, errOf t = er := ⟨_, rfl⟩
  obtain ⟨ln, hln⟩ : ∃ ln, lineOf t = ln := ⟨_, rfl⟩
  have HE := Lib.hid (eqCode_c L L' W5 H5.out.2.2.2.1 H5.out.2.2.2.2 (HQ.out.2.1.trans HQ2.out.2.1.symm))
  rw [HQ.out.1, HQ2.out.1] at HE
  rw [her, hln]
  clear her hln
  have e1 : (er == er) = true := by simp
  have e2 : (ln == ln) = true := by simp
  go_wp2_with (first | (refine wpList_load_row_g (by kernel_rfl) 27 (.tmp 3) rfl b3 rfl 27 #[.slice A1 n1 c1, .slice A2 n2 c2, .slice A3 n3 c3, .slice A4 n4 c4, .slice A5 n5 c5] (0, 0) _ H5.out.2.1 Tryz.underlying27 rfl (by kernel_rfl) ?_) | (refine wpList_load_row_g (by kernel_rfl) 27 (.tmp 6) rfl b5 rfl 27 #[.slice B1 m1 d1, .slice B2 m2 d2, .slice B3 m3 d3, .slice B4 m4 d4, .slice B5 m5 d5] (0, 0) _ H5.out.1 Tryz.underlying27 rfl (by kernel_rfl) ?_))
  refine HE.out.mono ?_
  rintro e w6 ⟨rfl, hb6⟩
  have HB6 := Lib.hid (bl H5.out.2.2.1 hb6)
  clear hb6
  go_wp2_with fail
  refine (lives_c w6 (HG.out _ HB6.out)).mono ?_
  rintro e w7 ⟨rfl, hb7⟩
  go_wp2_with fail
  go_ret
  exact ⟨rfl, bl HB6.out hb7⟩
end Go.Proofs.YtobplngonkdbpaaGreatDoor.D

/- GlIn -/
namespace Go.Proofs.YtobplngonkdbpaaGreatDoor.D
open Go.RowKit Go.Proofs.YtobplngonkdbpaaGreatDoor.B
open Go.Proofs.YtobplngonkdbpaaGreatDoor.T (Tab)
set_option linter.unusedVariables false

def deb64 : List Int := [0, 1, 56, 2, 57, 49, 28, 3, 61, 58, 42, 50, 38, 29, 17, 4, 62, 47, 59, 36, 45, 43, 51, 22, 53, 39, 33, 30, 24, 18, 12, 5, 63, 55, 48, 27, 60, 41, 37, 16, 46, 35, 44, 21, 52, 32, 23, 11, 54, 26, 40, 15, 34, 20, 31, 10, 25, 14, 19, 9, 13, 8, 7, 6]
theorem keep_pow : (Rows.codeRoundRow.laid.filter fun x => x.1 == "internal/strconv.uint64pow10") = [("internal/strconv.uint64pow10", Lib.tabData .u64 Lib.pow10Tab)] := by kernel_rfl
theorem keep_deb : (Rows.codeRoundRow.laid.filter fun x => x.1 == "math/bits.deBruijn64tab") = [("math/bits.deBruijn64tab", Lib.tabData .u8 deb64)] := by kernel_rfl
theorem g_pow : Tryz.prog.globalNamed "internal/strconv.uint64pow10" = some 1 := by kernel_rfl
theorem g_deb : Tryz.prog.globalNamed "math/bits.deBruijn64tab" = some 5 := by kernel_rfl
theorem t_pow : (Tryz.prog.globals[1]?).map (·.type) = some 230 := by kernel_rfl
theorem t_deb : (Tryz.prog.globals[5]?).map (·.type) = some 247 := by kernel_rfl
theorem tab_in {W : World} (h : laidMetH Tryz.prog Rows.codeRoundRow.laid W) : Tab W := by
  have h2 := h.filter fun x => x.1 == "internal/strconv.uint64pow10"
  rw [keep_pow] at h2
  exact Lib.tabBelow_of_tabIs (Lib.tabIs_of_head (rest := []) g_pow t_pow Tryz.underlying230 Tryz.underlying134 (by kernel_rfl) (by kernel_rfl) h2)
theorem deb_in {W : World} (h : laidMetH Tryz.prog Rows.codeRoundRow.laid W) : W.cell? ⟨5, 15, none⟩ = some (.int .u8 4) := by
  have h2 := h.filter fun x => x.1 == "math/bits.deBruijn64tab"
  rw [keep_deb] at h2
  exact (Lib.tabIs_of_head (rest := []) g_deb t_deb Tryz.underlying247 Tryz.underlying5 (by kernel_rfl) (by kernel_rfl) h2).cell g_deb 15 (by decide)
theorem row_in {W : World} (h : W.ShapedOpen Tryz.prog) (g : Nat) (zero : Array Value) (t : TypeId) (hg : g < Tryz.prog.globals.size) (hr : (((begin Tryz.prog (fun _ _ => 0) default).world.heap[g]?).bind Obj.row?) = some (zero, t)) (hb : Tryz.prog.buildable t = true) :
    ∃ cs, W.heap[g]? = some (.cells cs t) ∧ cs.size = zero.size ∧ Row.ok Tryz.prog W .any 0 t cs := by
  obtain ⟨cs, h1, h2, h3⟩ := h.1 g zero t hg hr
  exact ⟨cs, h1, h2, h3 hb⟩
set_option maxRecDepth 100000 in
theorem maxl_in {W : World} (h : W.ShapedOpen Tryz.prog) : ∃ m, W.cell? ⟨0, 0, none⟩ = some (.int .i64 m) := by
  obtain ⟨cs, h1, h2, ts, h3, h4, h5⟩ := row_in h 0 #[.int .i64 0] 3 (of_decide_eq_true (by kernel_rfl)) (by kernel_rfl) (by kernel_rfl)
  have e : Tryz.prog.cellTypes Tryz.prog.depth 3 = some [3] := by kernel_rfl
  obtain rfl := Option.some.inj (h3.symm.trans e)
  obtain ⟨v, hv⟩ : ∃ v, cs[0]? = some v := ⟨_, Array.getElem?_eq_getElem (by rw [h2]; decide)⟩
  obtain ⟨u, hu, hc⟩ := h5 0 v hv
  obtain rfl := Option.some.inj hu
  have hcell := (cell_of_row W 0 0 cs 3 (0, 0) h1).trans hv
  unfold Cell.ok at hc
  rw [Tryz.underlying3] at hc
  cases v with
  | int k m =>
    obtain ⟨hk, _⟩ := hc
    rw [hk] at hcell
    exact ⟨m, hcell⟩
  | _ => exact hc.elim
theorem hs_in {W : World} (h : W.ShapedOpen Tryz.prog) : 8 ≤ W.heap.size := by
  obtain ⟨p, hp⟩ : ∃ p, (((begin Tryz.prog (fun _ _ => 0) default).world.heap[7]?).bind Obj.row?) = some p := Option.isSome_iff_exists.1 (by kernel_rfl)
  obtain ⟨cs, h1, _⟩ := h.1 7 p.1 p.2 (of_decide_eq_true (by kernel_rfl)) hp
  rcases Nat.lt_or_ge 7 W.heap.size with h2 | h2
  · exact h2
  · rw [Array.getElem?_eq_none h2] at h1; cases h1
theorem keep_es : (Rows.codeRoundRow.laid.filter fun x => x.1 == "strconv.ErrSyntax") = [("strconv.ErrSyntax", Rows.laid_strconv_ErrSyntax)] := by kernel_rfl
theorem g_es : Tryz.prog.globalNamed "strconv.ErrSyntax" = some 2 := by kernel_rfl
theorem t_es : (Tryz.prog.globals[2]?).map (·.type) = some 75 := by kernel_rfl
set_option maxRecDepth 100000 in
theorem es_in {W : World} (h : laidMetH Tryz.prog Rows.codeRoundRow.laid W) : ∃ v, W.cell? ⟨2, 0, none⟩ = some v ∧ (v = .nilIface ∨ ∃ te pe, v = .iface te pe) := by
  have h2 := h.filter fun x => x.1 == "strconv.ErrSyntax"
  rw [keep_es] at h2
  obtain ⟨ps, ⟨g', t', cs, fuel, p, q, hg', ht', hvar, hd, _, _⟩, _⟩ := h2
  obtain rfl := Option.some.inj (g_es.symm.trans hg')
  obtain rfl := Option.some.inj (t_es.symm.trans ht')
  cases fuel with
  | zero => simp [DataW.trod] at hd
  | succ m =>
    unfold DataW.trod at hd
    rw [Tryz.underlying75] at hd
    have hcell := World.var?_cell g_es hvar 0
    rcases hc : cs.toList with _ | ⟨v, _ | ⟨v2, r⟩⟩
    · rw [hc] at hd; simp at hd
    · have h0 : cs[0]? = some v := by rw [← Array.getElem?_toList, hc]; rfl
      have hcell2 := (show W.cell? ⟨2, 0, none⟩ = cs[0]? by simpa using hcell).trans h0
      refine ⟨v, hcell2, ?_⟩
      rw [hc] at hd
      cases v with
      | nilIface => exact .inl rfl
      | iface a b => exact .inr ⟨a, b, rfl⟩
      | _ => first | (exfalso; simp at hd; done) | (exfalso; cases hd; done)
    · rw [hc] at hd; simp at hd
theorem keep_er : (Rows.codeRoundRow.laid.filter fun x => x.1 == "strconv.ErrRange") = [("strconv.ErrRange", Rows.laid_strconv_ErrRange)] := by kernel_rfl
theorem g_er : Tryz.prog.globalNamed "strconv.ErrRange" = some 3 := by kernel_rfl
theorem t_er : (Tryz.prog.globals[3]?).map (·.type) = some 75 := by kernel_rfl
set_option maxRecDepth 100000 in
theorem er_in {W : World} (h : laidMetH Tryz.prog Rows.codeRoundRow.laid W) : ∃ v, W.cell? ⟨3, 0, none⟩ = some v ∧ (v = .nilIface ∨ ∃ te pe, v = .iface te pe) := by
  have h2 := h.filter fun x => x.1 == "strconv.ErrRange"
  rw [keep_er] at h2
  obtain ⟨ps, ⟨g', t', cs, fuel, p, q, hg', ht', hvar, hd, _, _⟩, _⟩ := h2
  obtain rfl := Option.some.inj (g_er.symm.trans hg')
  obtain rfl := Option.some.inj (t_er.symm.trans ht')
  cases fuel with
  | zero => simp [DataW.trod] at hd
  | succ m =>
    unfold DataW.trod at hd
    rw [Tryz.underlying75] at hd
    have hcell := World.var?_cell g_er hvar 0
    rcases hc : cs.toList with _ | ⟨v, _ | ⟨v2, r⟩⟩
    · rw [hc] at hd; simp at hd
    · have h0 : cs[0]? = some v := by rw [← Array.getElem?_toList, hc]; rfl
      have hcell2 := (show W.cell? ⟨3, 0, none⟩ = cs[0]? by simpa using hcell).trans h0
      refine ⟨v, hcell2, ?_⟩
      rw [hc] at hd
      cases v with
      | nilIface => exact .inl rfl
      | iface a b => exact .inr ⟨a, b, rfl⟩
      | _ => first | (exfalso; simp at hd; done) | (exfalso; cases hd; done)
    · rw [hc] at hd; simp at hd
theorem gl_in {W : World} (h : laidMetH Tryz.prog Rows.codeRoundRow.laid W) (hS : W.ShapedOpen Tryz.prog) : Gl W := ⟨tab_in h, hs_in hS, deb_in h, maxl_in hS, es_in h, er_in h⟩
end Go.Proofs.YtobplngonkdbpaaGreatDoor.D

/- CodeReads -/
namespace Go.Proofs.YtobplngonkdbpaaGreatDoor.D
open Go.RowKit Go.Proofs.YtobplngonkdbpaaGreatDoor.B Go.ChangeShapes Go.WideShapes Go.ChangeAt
open Go.ChangeMaps (open_string shut_string)
set_option linter.unusedVariables false

theorem ownCodeReads : ownKnob Tryz.prog.godebug = none := by kernel_rfl
theorem laidOutCodeReads : laidOutB Tryz.prog = true := by kernel_rfl
set_option maxRecDepth 100000 in
theorem contractCodeReads (H : Type) (enc : TypeId × Value → H) (W : World) (base : Nat) (args : Array Value) (ds gs : List (DataW H)) (before : List MemPlace)
    (hval0 : ∀ (j : Nat) t v, Tryz.f4.params[j]? = some t → args[j]? = some v → Value.okWide Tryz.prog W .any base t v)
    (hW : DataW.Whole enc Tryz.prog Tryz.f4.params.toList Rows.codeReadsSpec.vars false W args.toList ds gs before)
    (hsz0 : (DataW.weightsEach Tryz.prog (Tryz.f4.params.toList ++ Rows.codeReadsSpec.plain.varTypes Tryz.prog) (ds ++ gs)).all (· ≤ reachBytes) = true) (hL : laidMetH Tryz.prog Rows.codeReadsRow.laid W) (hSh : W.ShapedOpen Tryz.prog) :
    Calls Tryz.prog 4 args W fun e W' => ∃ v, e = .returned v ∧ Rows.codeReadsSpec.post enc Tryz.prog Tryz.f4 false true false false W args v W' := by
  have hsz : (DataW.weightsEach Tryz.prog (Tryz.f4.params.toList ++ Rows.codeReadsSpec.plain.varTypes Tryz.prog) (ds ++ gs)).all (· ≤ reachBytes) = true := hsz0
  have hval : ∀ (j : Nat) t v, Tryz.f4.params[j]? = some t → args[j]? = some v → Value.okWide Tryz.prog W .any base t v := hval0
  have hW' := hW
  obtain ⟨p, q, hA0, hV, rfl, hfz, hnd⟩ := hW
  have hA : DataW.TrodAll enc Tryz.prog W 0 (fun _ => true) true Tryz.f4.params.toList args.toList ds p := hA0
  rw [Tryz.params4] at hA hval hsz
  obtain ⟨v0, vs0, d0, ds0, p0, q0, hargs, rfl, rfl, h0, r0⟩ := trodAll_cons hA
  obtain ⟨rfl, rfl, rfl⟩ := trodAll_nil r0
  obtain rfl : args = #[v0] := by cases args; simp_all
  obtain ⟨rfl, rfl⟩ := trodVars_none hV
  obtain ⟨s0, rfl, rfl, rfl, hm0⟩ := open_string Tryz.underlying9 (hval 0 9 v0 rfl rfl) h0
  have hz0 : s0.size ≤ 140737488351232 := by have := sized_string hsz (j := 0) (t := 9) rfl rfl; simpa [reachBytes] using this
  clear hA0 hval0
  refine (codeReads_walk s0.data.toList W (by have := hz0; show s0.size ≤ _; omega) (gl_in (show laidMetH Tryz.prog Rows.codeRoundRow.laid W from hL) hSh)).mono fun e W' ⟨he, bel⟩ => ?_
  subst he
  exact ⟨_, rfl, _, _, _, [], _, [], hW', trodAll_mk1 (shut_bool Tryz.underlying4 _), (trodAll_cons_mk (shut_string Tryz.underlying9 hm0) trodAll_mk0), rfl, bel.frame _, fun h => by cases h⟩

noncomputable def lowCodeReads : Nat := (World.holding Tryz.prog default ⟨#[], #[], []⟩).heap.size
noncomputable def laySenCodeReads (j : Nat) : Obj → Obj
  | .cells _ t frozen => .cells #[.iface 248 (.pointer (some ⟨lowCodeReads + j, 0, none⟩))] t frozen
  | o => o
def cellsCodeReads : DataW Unit → Array Value
  | .agg l => (l.flatMap fun | .lit (.int k z) => [Value.int k z] | .agg m => m.map (fun | .lit (.int k z) => Value.int k z | _ => .int .u8 0) | _ => []).toArray
  | _ => #[]
def layCodeReads (d : DataW Unit) : Obj → Obj
  | .cells _ t frozen => .cells (cellsCodeReads d) t frozen
  | o => o
noncomputable def laidWorldCodeReads (os : Os) : World := { World.holding Tryz.prog os ⟨#[.cells #[.string { data := #[118, 97, 108, 117, 101, 32, 111, 117, 116, 32, 111, 102, 32, 114, 97, 110, 103, 101] }] 250, .cells #[.string { data := #[105, 110, 118, 97, 108, 105, 100, 32, 115, 121, 110, 116, 97, 120] }] 250], #[], []⟩ with heap := ((((((((World.holding Tryz.prog os ⟨#[.cells #[.string { data := #[118, 97, 108, 117, 101, 32, 111, 117, 116, 32, 111, 102, 32, 114, 97, 110, 103, 101] }] 250, .cells #[.string { data := #[105, 110, 118, 97, 108, 105, 100, 32, 115, 121, 110, 116, 97, 120] }] 250], #[], []⟩).heap.modify 4 (layCodeReads Rows.laid_math_bits_deBruijn32tab)).modify 5 (layCodeReads Rows.laid_math_bits_deBruijn64tab)).modify 1 (layCodeReads Rows.laid_internal_strconv_uint64pow10)).modify 7 (layCodeReads Rows.laid_unicode_utf8_acceptRanges)).modify 3 (laySenCodeReads 0)).modify 2 (laySenCodeReads 1)).modify 6 (layCodeReads Rows.laid_unicode_utf8_first)) }
theorem laid_metCodeReads (os : Os) : laidMet Tryz.prog Rows.codeReadsRow.laid ((laidWorldCodeReads os).forCall (fun _ _ => 0) ⟨#[], #[.string ⟨#[]⟩], []⟩).memory :=
  laidMet_of_run' 30 (by kernel_rfl) (by kernel_rfl)
theorem readsCodeReads (os : Os) {H : Type} (enc : TypeId × Value → H) : ∃ places, DataW.whole enc Tryz.prog ((laidWorldCodeReads os).forCall (fun _ _ => 0) ⟨#[], #[.string ⟨#[]⟩], []⟩).memory Tryz.f4.params.toList Rows.codeReadsSpec.vars false (#[.string ⟨#[]⟩] : Array Value).toList 8 = some ([.lit (.string [])], [], places) :=
  ⟨[], by kernel_rfl⟩

set_option maxRecDepth 100000 in
theorem liftedCodeReads (os : Os) (started : os.Started) (H : Type) (enc : TypeId × Value → H) (F : Stop.Interp) :
    ReturnsInHanded {} Tryz.checked os 4 .any ((OpenSpec.ofChange Rows.codeReadsSpec).preRow enc Tryz.prog Tryz.f4 Rows.codeReadsRow.domain false Rows.codeReadsRow.laid) (((OpenSpec.ofChange Rows.codeReadsSpec).at F).post enc Tryz.prog Tryz.f4 false true false false) := by
  obtain ⟨places, hx⟩ := readsCodeReads os enc
  refine returnsInHanded_of_row (C := Tryz.checked) (s := OpenSpec.ofChange Rows.codeReadsSpec) ownCodeReads started (by kernel_rfl) Tryz.func4
    (witness_row_at (enc := enc) (C := Tryz.checked) false (laidWorldCodeReads os) #[.string ⟨#[]⟩] rfl (by kernel_rfl) (by kernel_rfl) (by kernel_rfl)
      (OpenSpec.preRow_of_cond 8 hx (by kernel_rfl) (fun k hk => by cases hk) (by kernel_rfl) (laid_metCodeReads os))) ?_
  intro W base args ds gs before hval hW _ _ hsz hL hSh _
  exact contractCodeReads H enc W base args ds gs before hval hW hsz hL hSh

theorem saidCodeReads : Rows.CodeReadsSaid :=
  OpenClaim.holds_of_cond 4 Tryz.f4 rfl rfl rfl rfl rfl rfl rfl ⟨rfl, rfl, rfl, rfl, rfl⟩ rfl rfl rfl rfl rfl (by kernel_rfl) Tryz.func4 (by kernel_rfl)
    (of_decide_eq_true (by kernel_rfl)) (by unfold Func.isWrapper; first | (rw [if_pos (by decide +kernel)]; kernel_rfl) | (rw [if_neg (by decide +kernel)]; exact ⟨rfl, rfl⟩))
    (fun os started H enc _ F => by rw [OpenClaim.pre_eq_preRow]; exact liftedCodeReads os started H enc F)

theorem plainCodeReads (f : FuncId) (fn : Func) (hf : Tryz.pinned.checked.prog.funcNamed "culprit/culpritlaw18.CodeReads" = some f) (hfn : Tryz.pinned.checked.prog.funcs[f]? = some fn) :
    true = Tryz.pinned.checked.prog.looks [] ∧ ∀ (j : Nat) t, fn.params[j]? = some t → Tryz.pinned.checked.prog.wantsStandIn t = false := by
  obtain rfl : f = 4 := Option.some.inj ((show Tryz.prog.funcNamed "culprit/culpritlaw18.CodeReads" = some 4 by kernel_rfl).symm.trans hf) |>.symm
  obtain rfl : fn = Tryz.f4 := (Option.some.inj (Tryz.func4.symm.trans hfn)).symm
  refine ⟨by kernel_rfl, fun j t ht => ?_⟩
  rw [Tryz.params4] at ht
  have hm := Array.mem_of_getElem? ht
  simp only [List.mem_toArray, List.mem_cons, List.not_mem_nil, or_false] at hm
  rcases hm with rfl
  · exact (show Tryz.prog.wantsStandIn 9 = false by kernel_rfl)

theorem codeReads_card : Rows.CodeReadsCardSaid :=
  Claim7.holds_tied_plain_at .later [] _ _ _ _ saidCodeReads (fun _ h => by cases h) (by kernel_rfl) (fun _ h => by cases h) codeReads_row_tie rfl ⟨rfl, rfl⟩ (by kernel_rfl) rfl plainCodeReads (by kernel_rfl)
#print axioms codeReads_card
end Go.Proofs.YtobplngonkdbpaaGreatDoor.D
