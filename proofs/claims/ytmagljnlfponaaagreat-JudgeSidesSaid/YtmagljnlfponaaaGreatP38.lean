/- JudgeSides, proved: whatever the input the law returns true and leaves its arguments as they read. No condition of its own: the form's own reach alone. -/
import Derived.ProofKit
import Derived.OpenShut
import Derived.SizedLaws
import Derived.ShutString
import Derived.ChangeOld
import Derived.Test.YtmagljnlfponaaaGreatP37
import Derived.Test.YtmagljnlfponaaaGreatP34
import Derived.Test.YtmagljnlfponaaaGreatRows
set_option linter.unusedVariables false
set_option linter.unusedSimpArgs false
/- ObIn -/
namespace Go.Proofs.YtmagljnlfponaaaGreat.R
open Go.RowKit Go.Proofs.YtmagljnlfponaaaGreat.B Go.Proofs.YtmagljnlfponaaaGreat.La Go.ChangeShapes Go.WideShapes Go.Deep

section
variable {H : Type} {enc : TypeId × Value → H} {W : World}

set_option maxRecDepth 100000 in
theorem open_ob {fuel : Nat} {cs : List Value} {x : DataW H × List MemPlace} {base : Nat} {spare : Nat → Bool} {held : Bool}
    (h : DataW.trod enc Tryz.prog W base spare held fuel 82 cs = some x) :
    ∃ s : Ob, cs = s.vs ∧ (-9223372036854775808 ≤ s.n ∧ s.n ≤ 9223372036854775807) := by
  obtain ⟨ys, n, _, hx, hlen, hyl, hf⟩ := DataW.trod_struct Tryz.underlying82 h
  have hl3 : cs.length = 3 := hlen.trans (by kernel_rfl)
  have c9 : Tryz.prog.cellsOf 9 = 1 := by kernel_rfl
  have c2 : Tryz.prog.cellsOf 2 = 1 := by kernel_rfl
  have c8 : Tryz.prog.cellsOf 56 = 1 := by kernel_rfl
  match cs, hl3, ys, hyl with
  | [a0, a1, a2], _, [y0, y1, y2], _ =>
    have h0 : DataW.trod enc Tryz.prog W base spare held n 56 ((([a0, a1, a2] : List Value).drop 0).take (Tryz.prog.cellsOf 56)) = some y0 := hf 0 _ rfl
    have h1 : DataW.trod enc Tryz.prog W base spare held n 2 ((([a0, a1, a2] : List Value).drop 1).take (Tryz.prog.cellsOf 2)) = some y1 := hf 1 _ rfl
    have h2 : DataW.trod enc Tryz.prog W base spare held n 9 ((([a0, a1, a2] : List Value).drop 2).take (Tryz.prog.cellsOf 9)) = some y2 := hf 2 _ rfl
    rw [c8] at h0
    rw [c2] at h1
    rw [c9] at h2
    obtain ⟨kd, e0, x0, w0⟩ := DataW.trod_int Tryz.underlying56 h0
    obtain ⟨nn, e1, x1, w1⟩ := DataW.trod_int Tryz.underlying2 h1
    obtain ⟨tx, e2, x2, m2⟩ := DataW.trod_string Tryz.underlying9 h2
    simp only [List.drop_zero, List.drop_succ_cons, List.take_succ_cons, List.take_zero, List.cons.injEq, and_true] at e0 e1 e2
    subst e0 e1 e2
    have b1 := bounds_i64 w1
    exact ⟨⟨kd, nn, tx⟩, rfl, b1.1, b1.2⟩

theorem open_seen {fuel : Nat} {A : Option Addr} {len cap : Nat} {x : DataW H × List MemPlace}
    (h : DataW.trod enc Tryz.prog W 0 (fun _ => true) true fuel 26 [.slice A len cap] = some x) (hsz : ∀ n ∈ x.1.weights Tryz.prog 26, n ≤ reachBytes) :
    ∃ l : List Ob, l.length = len ∧ Sl W W.heap.size 3 A len (obs l) ∧ (∀ s ∈ l, -9223372036854775808 ≤ s.n ∧ s.n ≤ 9223372036854775807) ∧ True ∧ len * 32 ≤ reachBytes ∧ len ≤ cap ∧ cap ≤ maxLen := by
  rcases open_slice Tryz.underlying26 h with ⟨hcs, hx⟩ | ⟨a, len', cap', m, n, D, Pl, hcs, _, hl, hm, hmm, hx, hi⟩
  · simp only [List.cons.injEq, Value.slice.injEq, and_true] at hcs
    obtain ⟨rfl, rfl, rfl⟩ := hcs
    exact ⟨[], rfl, Sl.nil _ _ _ _, by simp, trivial, by simp, Nat.le_refl _, by unfold maxLen; omega⟩
  · simp only [List.cons.injEq, Value.slice.injEq, and_true] at hcs
    obtain ⟨rfl, rfl, rfl⟩ := hcs
    have hle : len ≤ m := by rw [hmm]; simpa using hl
    have c31 : Tryz.prog.cellsOf 82 = 3 := by kernel_rfl
    have b31 : Tryz.prog.bytesOf 82 = 32 := by kernel_rfl
    have hx1 : x.1 = .slice ((List.range len).map D) ((List.range (m - len)).map fun j => D (len + j)) := by rw [hx]
    rw [hx1] at hsz
    simp only [DataW.weights, Tryz.underlying26, List.mem_cons, List.mem_append, b31, List.length_map, List.length_range] at hsz
    have hlen := hsz _ (.inl rfl)
    have key : ∀ i, i < len → ∃ s : Ob, (-9223372036854775808 ≤ s.n ∧ s.n ≤ 9223372036854775807) ∧ ∀ j, j < 3 → W.cell? (a.add (i * 3 + j)) = s.vs[j]? := by
      intro i hil
      obtain ⟨cs', hc, ht⟩ := hi i (by omega)
      rw [c31] at hc
      obtain ⟨_, hcl, hat⟩ := World.cells?_some hc
      obtain ⟨s, rfl, hok⟩ := open_ob ht
      refine ⟨s, hok, fun j hj => ?_⟩
      rw [← Go.Deep.add_add, hat j hj]
    have : Inhabited Ob := ⟨⟨0, 0, ⟨#[]⟩⟩⟩
    obtain ⟨f, hf⟩ := choose_lt key
    refine ⟨(List.range len).map f, by simp, ⟨by rw [obs_len]; simp, ?_⟩, ?_, trivial, by omega, hl, hm⟩
    · rcases Nat.eq_zero_or_pos len with h0 | h0
      · exact .inl h0
      · right
        obtain ⟨b, o, spot⟩ := a
        have hc0 : W.cell? ((⟨b, o, spot⟩ : Addr).add 0) = some (.int .i8 (f 0).kd) := (hf 0 h0).2 0 (by omega)
        have hspot : spot = none := by simpa [Addr.add] using World.cell?_spot hc0
        subst hspot
        refine ⟨b, o, rfl, by have := World.block_lt_of_cell? W _ hc0; simpa [Addr.add] using this, fun j u hu => ?_⟩
        have hjl : j < len * 3 := by
          have := (List.getElem?_eq_some_iff.1 hu).1
          rw [obs_len] at this; simpa using this
        have hk : j / 3 < len := by omega
        have := (hf (j / 3) hk).2 (j % 3) (by omega)
        rw [add_flat, show j / 3 * 3 + j % 3 = j by omega] at this
        rw [this, ← obs_at _ (j / 3) _ (j % 3) (by rw [List.getElem?_map, List.getElem?_range hk]; rfl) (by omega), show j / 3 * 3 + j % 3 = j by omega, hu]
    · intro s hs
      obtain ⟨i, hi, rfl⟩ := List.mem_map.1 hs
      exact (hf i (List.mem_range.1 hi)).1
end

end Go.Proofs.YtmagljnlfponaaaGreat.R

/- JudgeSides -/
namespace Go.Proofs.YtmagljnlfponaaaGreat.R
open Go.RowKit Go.Proofs.YtmagljnlfponaaaGreat.B Go.Proofs.YtmagljnlfponaaaGreat.K Go.ChangeShapes Go.WideShapes Go.ChangeAt
open Go.ChangeMaps (open_string shut_string)
set_option linter.unusedVariables false

theorem ownJudgeSides : ownKnob Tryz.prog.godebug = none := by kernel_rfl
theorem laidOutJudgeSides : laidOutB Tryz.prog = true := by kernel_rfl

set_option maxRecDepth 100000 in
theorem liftedJudgeSides (os : Os) (started : os.Started) (H : Type) (enc : TypeId × Value → H) :
    ReturnsInHanded {} Tryz.checked os 3 .any (Rows.judgeSidesSpec.pre6 enc Tryz.prog Tryz.f3 Rows.judgeSidesRow.domain false) (Rows.judgeSidesSpec.post enc Tryz.prog Tryz.f3 false true false false) := by
  refine returnsInHanded_of_change_sized (C := Tryz.checked) ownJudgeSides started (by kernel_rfl) Tryz.func3
    (ChangeSpec.witness6 (enc := enc) (C := Tryz.checked) false ⟨#[], #[.agg #[.slice none 0 0, .string ⟨#[]⟩, .slice none 0 0], .int .i64 0, .slice none 0 0], []⟩ 8 (by kernel_rfl) (by kernel_rfl) (by kernel_rfl) (by kernel_rfl)) ?_
  intro W base args ds gs before hval0 hW hcnd hsz0 _
  have hsz : (DataW.weightsEach Tryz.prog (Tryz.f3.params.toList ++ Rows.judgeSidesSpec.plain.varTypes Tryz.prog) (ds ++ gs)).all (· ≤ reachBytes) = true := hsz0
  have hval : ∀ (j : Nat) t v, Tryz.f3.params[j]? = some t → args[j]? = some v → Value.okWide Tryz.prog W .any base t v := hval0
  have hW' := hW
  obtain ⟨p, q, hA0, hV, rfl, hfz, hnd⟩ := hW
  have hA : DataW.TrodAll enc Tryz.prog W 0 (fun _ => true) true Tryz.f3.params.toList args.toList ds p := hA0
  rw [Tryz.params3] at hA hval hsz
  obtain ⟨v0, vs0, d0, ds0, p0, q0, hargs, rfl, rfl, h0, r0⟩ := trodAll_cons hA
  obtain ⟨v1, vs1, d1, ds1, p1, q1, rfl, rfl, rfl, h1, r1⟩ := trodAll_cons r0
  obtain ⟨v2, vs2, d2, ds2, p2, q2, rfl, rfl, rfl, h2, r2⟩ := trodAll_cons r1
  obtain ⟨rfl, rfl, rfl⟩ := trodAll_nil r2
  obtain rfl : args = #[v0, v1, v2] := by cases args; simp_all
  obtain ⟨rfl, rfl⟩ := trodVars_none hV
  obtain ⟨ag0, rfl, _⟩ := okWide_struct Tryz.underlying25 (hval 0 25 v0 rfl rfl)
  have k0 := h0
  have lt0 : ∀ x ∈ p0, x.block < W.heap.size := by obtain ⟨m, hm⟩ := k0; exact DataW.trod_lt m _ _ _ hm
  obtain ⟨fuel0, hf0⟩ := h0
  obtain ⟨L0, T0, l0, A0, B0, c0, e0, hag0, q1_0, q2_0, q3_0, q4_0, q5_0, q6_0, q7_0, q8_0, q9_0, q10_0⟩ := open_prog hf0 (fun n hn => by
    have := List.all_eq_true.1 hsz n (DataW.weights_mem_each (j := 0) (t := 25) (d := d0) rfl rfl n hn)
    simpa using this)
  obtain rfl : ag0 = #[.slice A0 L0.length c0, .string T0, .slice B0 l0.length e0] := Array.toList_inj.1 hag0
  simp only [reachBytes] at q4_0 q6_0 q7_0 q8_0
  obtain ⟨n1, rfl, rfl, rfl, w1⟩ := open_int Tryz.underlying2 (hval 1 2 v1 rfl rfl) h1
  have hb1 := bounds_i64 w1
  obtain ⟨a2, len2, cap2, rfl⟩ := okWide_slice Tryz.underlying26 (hval 2 26 v2 rfl rfl)
  have k2 := h2
  have lt2 : ∀ x ∈ p2, x.block < W.heap.size := by obtain ⟨m, hm⟩ := k2; exact DataW.trod_lt m _ _ _ hm
  obtain ⟨fuel2, hf2⟩ := h2
  obtain ⟨l2, rfl, hsl2, hok2, hrs2, hrl2, hlc2, hcm2⟩ := open_seen hf2 (fun n hn => by
    have := List.all_eq_true.1 hsz n (DataW.weights_mem_each (j := 2) (t := 26) (d := d2) rfl rfl n hn)
    simpa using this)
  simp only [reachBytes] at hrl2
  clear hA0 hval0
  refine (judgeSides_walk L0 T0 l0 A0 c0 B0 e0 n1 l2 a2 cap2 W (by omega) (by omega) (by omega) q9_0 q10_0 hlc2 q1_0 q2_0 hsl2 (fun x hx => by have := q4_0 x hx; exact ⟨by omega, by omega, by omega⟩) (fun s hs => by have := q6_0 s hs; exact ⟨by omega, by omega⟩) hb1.1 hb1.2 hok2).mono fun e W' ⟨he, bel⟩ => ?_
  subst he
  exact ⟨_, rfl, _, _, _, [], _, [], hW', trodAll_mk1 (shut_bool Tryz.underlying4 _), (trodAll_cons_mk (Below.trod laidOutJudgeSides (by kernel_rfl) (of_decide_eq_true (by kernel_rfl)) k0 bel lt0) (trodAll_cons_mk (shut_int Tryz.underlying2 w1) (trodAll_cons_mk (Below.trod laidOutJudgeSides (by kernel_rfl) (of_decide_eq_true (by kernel_rfl)) k2 bel lt2) trodAll_mk0))), rfl, bel.frame _, fun h => by cases h⟩

theorem overJudgeSides : Rows.judgeSidesRow.holds Tryz.pinned (OpenSpec.ofChange Rows.judgeSidesSpec) :=
  OpenClaim.holds_of_wide 3 Tryz.f3 rfl rfl rfl rfl rfl rfl rfl ⟨rfl, rfl, rfl, rfl, rfl⟩ rfl rfl rfl rfl rfl (by kernel_rfl) Tryz.func3 (by kernel_rfl)
    (of_decide_eq_true (by kernel_rfl)) (by unfold Func.isWrapper; first | (rw [if_pos (by decide +kernel)]; kernel_rfl) | (rw [if_neg (by decide +kernel)]; exact ⟨rfl, rfl⟩))
    (fun os started H enc _ => liftedJudgeSides os started H enc)

theorem judgeSides_holds : Rows.JudgeSidesSaid := overJudgeSides
#print axioms judgeSides_holds
end Go.Proofs.YtmagljnlfponaaaGreat.R
