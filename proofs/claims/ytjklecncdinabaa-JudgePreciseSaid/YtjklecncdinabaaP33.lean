/- Parts of this claim: JuI, JuJ, ReBP, ReP. -/
import Derived.StillTailTactics
import Derived.Deep.LoopGhost
import Derived.Test.YtjklecncdinabaaP32
import Derived.Test.YtjklecncdinabaaP31
import Derived.Test.YtjklecncdinabaaP29
import Derived.Test.YtjklecncdinabaaP00
import Derived.Test.YtjklecncdinabaaP01
set_option linter.unusedVariables false
set_option linter.unusedSimpArgs false
/- JuI -/
namespace Go.Proofs.Ytjklecncdinabaa.J
open Go.RowKit Go.Proofs.Ytjklecncdinabaa.B Go.Proofs.Ytjklecncdinabaa.T Go.Proofs.Ytjklecncdinabaa.K Go.Proofs.Ytjklecncdinabaa.La
set_option linter.unusedVariables false
set_option linter.unusedSimpArgs false

def tQI : Ty := .bin 62 (.leaf 63) (.leaf 105)
def tII : Ty := .bin 62 (.leaf 105) (.leaf 105)
theorem okQI : tQI.ok := ⟨by decide, (by decide : arB 63 = 0), (by decide : arB 105 = 0)⟩
theorem okII : tII.ok := ⟨by decide, (by decide : arB 105 = 0), (by decide : arB 105 = 0)⟩
theorem okI : (Ty.leaf 105).ok := (by decide : arB 105 = 0)
def n0 : Tn := ⟨30, 1, 2, ⟨#[]⟩, ⟨#[62, 63, 105]⟩, ⟨#[62, 105, 105]⟩, 0, 0⟩
def n1 : Tn := ⟨30, 1, 1, ⟨#[]⟩, ⟨#[62, 105, 105]⟩, ⟨#[62, 63, 105]⟩, 0, 0⟩
def n2 : Tn := ⟨5, 1, 0, ⟨#[]⟩, ⟨#[105]⟩, ⟨#[105]⟩, 0, 0⟩
def n3 : Tn := ⟨4, 0, 0, ⟨#[]⟩, ⟨#[]⟩, ⟨#[]⟩, 0, 0⟩
def termW : List Tn := [n0, n1, n2, n3]
theorem sQI : (⟨#[62, 63, 105]⟩ : ByteArray) = str tQI := rfl
theorem sII : (⟨#[62, 105, 105]⟩ : ByteArray) = str tII := rfl
theorem sI : (⟨#[105]⟩ : ByteArray) = str (.leaf 105) := rfl
theorem bQI : isB ⟨#[62, 63, 105]⟩ = true := by rw [sQI]; exact isB_str okQI (by decide)
theorem bII : isB ⟨#[62, 105, 105]⟩ = true := by rw [sII]; exact isB_str okII (by decide)
theorem bI : isB ⟨#[105]⟩ = true := by rw [sI]; exact isB_str okI (by decide)
theorem yQI : ty ⟨#[62, 63, 105]⟩ = tQI := by rw [sQI]; exact ty_str okQI (by decide)
theorem yII : ty ⟨#[62, 105, 105]⟩ = tII := by rw [sII]; exact ty_str okII (by decide)
theorem yI : ty ⟨#[105]⟩ = .leaf 105 := by rw [sI]; exact ty_str okI (by decide)
theorem w0 : wordsE n0 0 = 0 := by simp [wordsE, n0, bQI, bII, yQI, yII, show allT askC tQI tII = true by decide]
theorem w1' : wordsE n1 0 = 0 := by simp [wordsE, n1, bQI, bII, yQI, yII, show allT askC tII tQI = true by decide]
theorem w2 : wordsE n2 0 = 0 := by simp [wordsE, n2, bI]
theorem w3 : wordsE n3 1 = 0 := by simp [wordsE, n3]
theorem y3 : tyT n3 .nil [.leaf 105] 3 = .ok (.leaf 105) := by unfold tyT; rw [show ([Ty.leaf 105]).length = 1 from rfl, w3]; rfl
theorem y2 : tyT n2 (.cons n3 .nil .nil) [] 2 = .ok tII := by
  unfold tyT
  rw [show ([] : List Ty).length = 0 from rfl, w2]
  simp only [n2, show ¬ ((5 : Int) = 4) by decide, if_false, if_true, yI, ne_eq, not_true_eq_false]
  rw [made_pos (by decide : (Ty.bin 62 (.leaf 105) (.leaf 105)).code.length ≤ 64), Rs.then_ok, tyF_cons, y3, Rs.then_ok]
  simp only [tyF, Rs.then_ok, List.getD_cons_zero]
  rw [want_pos trivial]
  rfl
theorem y1 : tyT n1 (.cons n2 (.cons n3 .nil .nil) .nil) [] 1 = .ok tQI := by
  unfold tyT
  rw [show ([] : List Ty).length = 0 from rfl, w1']
  simp only [show n1.kd = 30 from rfl, show ¬ ((30 : Int) = 4) by decide, show ¬ ((30 : Int) = 5) by decide, show ¬ ((30 : Int) = 6) by decide, show ¬ ((30 : Int) = 8) by decide, if_false, ne_eq, not_true_eq_false]
  rw [tyF_cons, y2]
  simp only [tyF, Rs.then_ok]
  simp only [ruleE, show n1.kd = 30 from rfl, show ¬ ((30 : Int) = 1) by decide, show ¬ ((30 : Int) = 2) by decide, show ¬ ((30 : Int) = 3) by decide, if_false, if_true, List.getD_cons_zero]
  rw [want_pos (by exact yII.symm)]
  exact congrArg Rs.ok yQI
theorem y0 : tyT n0 (.cons n1 (.cons n2 (.cons n3 .nil .nil) .nil) .nil) [] 0 = .ok tII := by
  unfold tyT
  rw [show ([] : List Ty).length = 0 from rfl, w0]
  simp only [show n0.kd = 30 from rfl, show ¬ ((30 : Int) = 4) by decide, show ¬ ((30 : Int) = 5) by decide, show ¬ ((30 : Int) = 6) by decide, show ¬ ((30 : Int) = 8) by decide, if_false, ne_eq, not_true_eq_false]
  rw [tyF_cons, y1]
  simp only [tyF, Rs.then_ok]
  simp only [ruleE, show n0.kd = 30 from rfl, show ¬ ((30 : Int) = 1) by decide, show ¬ ((30 : Int) = 2) by decide, show ¬ ((30 : Int) = 3) by decide, if_false, if_true, List.getD_cons_zero]
  rw [want_pos (by exact yQI.symm)]
  exact congrArg Rs.ok yII
theorem wfW : Tf.wf (.cons n0 (.cons n1 (.cons n2 (.cons n3 .nil .nil) .nil) .nil) .nil) := by
  refine ⟨by decide, by decide, ⟨by decide, by decide, ⟨by decide, by decide, ⟨by decide, by decide, trivial, trivial⟩, trivial⟩, trivial⟩, trivial⟩
theorem chkW : chk termW = .ok tII := by
  have h1 : shq 1024 termW 0 = .ok ([], 4) := shq_of 1024 n0 (.cons n1 (.cons n2 (.cons n3 .nil .nil) .nil) .nil) [] 0 wfW (by decide)
  have h2 : treeN termW = (n0, .cons n1 (.cons n2 (.cons n3 .nil .nil) .nil) .nil) := treeN_eq wfW
  rw [chk_short (by decide), h1, Rs.then_ok, if_pos (by decide), h2]
  exact y0
theorem laidW : laidL termW = [n0, n1] := rfl
theorem chkPW : chkP termW ⟨#[62, 105, 105]⟩ 2 = (0, [n0, n1]) := by
  unfold chkP
  rw [chkW]
  simp only
  rw [if_neg (by simp [sII]), laidW, if_neg]
  rintro ⟨c, hc, h⟩
  simp at hc
  rcases hc with rfl | rfl <;> simp [n0, n1] at h
theorem blW : blL [n0, n1] = [-1] := by
  have p0 : plusC n0 = true := by unfold plusC; rw [show n0.t = ⟨#[62, 63, 105]⟩ from rfl, show n0.u = ⟨#[62, 105, 105]⟩ from rfl, yQI, yII]; decide
  have p1 : plusC n1 = true := by unfold plusC; rw [show n1.u = ⟨#[62, 63, 105]⟩ from rfl, show n1.t = ⟨#[62, 105, 105]⟩ from rfl, yQI, yII]; decide
  have m0 : minusC n0 = true := by unfold minusC; rw [show n0.t = ⟨#[62, 63, 105]⟩ from rfl, show n0.u = ⟨#[62, 105, 105]⟩ from rfl, yQI, yII]; decide
  have m1 : minusC n1 = false := by unfold minusC; rw [show n1.u = ⟨#[62, 63, 105]⟩ from rfl, show n1.t = ⟨#[62, 105, 105]⟩ from rfl, yQI, yII]; decide
  simp [blL, blC, p0, p1, m0, m1]
  rfl
def siteA : Site := ⟨⟨#[109, 97, 105, 110]⟩, ⟨#[]⟩, 0, 0, 4⟩
def siteB : Site := ⟨⟨#[109, 97, 105, 110]⟩, ⟨#[108, 105, 98]⟩, 0, 0, 18⟩
theorem modsW {ms : List ByteArray} (h : ModsIn [siteA, siteB] (blL [n0, n1]) ms) : ms = [⟨#[109, 97, 105, 110]⟩] := by
  obtain ⟨hp, hm⟩ := h
  rw [blW] at hm
  have hn : [(-1 : Int)].map (nameB [siteA, siteB]) = [⟨#[109, 97, 105, 110]⟩] := by
    simp [nameB, sideL, sideI, siteA, siteB, nameOf]
  rw [hn] at hm
  match ms, hp, hm with
  | [], _, hm => exact absurd ((hm ⟨#[109, 97, 105, 110]⟩).2 (by simp)) (by simp)
  | [a], _, hm => rw [List.mem_singleton.1 ((hm a).1 (by simp))]
  | a :: b :: r, hp, hm =>
    have ha := List.mem_singleton.1 ((hm a).1 (by simp))
    have hb := List.mem_singleton.1 ((hm b).1 (by simp))
    have := (List.pairwise_cons.1 hp).1 b (by simp)
    rw [ha, hb, less_irrefl] at this
    cases this

theorem sl_blk {w : World} {b sz n : Nat} {t : TypeId} {xs : List Value} (h : Blk w b t xs.toArray) (hx : xs.length = n * sz) : Sl w w.heap.size sz (some ⟨b, 0, none⟩) n xs :=
  ⟨hx, .inr ⟨b, 0, rfl, h.lt, fun j u hu => by rw [Nat.zero_add]; rw [h.cell j]; simpa using hu⟩⟩
/-- What the walk asks of Sides and Modules at that program. -/
theorem sidesW (a b c d : Nat) (w : World) (hA : Sl w w.heap.size 8 (some ⟨a, 0, none⟩) 4 (tns termW)) :
    Calls Try.prog 6 #[.agg #[.slice (some ⟨a, 0, none⟩) 4 4, .string ⟨#[62, 105, 105]⟩, .slice (some ⟨b, 0, none⟩) 2 2]] w fun e w' => Below w.heap.size w w' ∧ ∃ v, e = .returned (.tuple #[v, .int .i64 0]) ∧ w'.ownsRow w.heap.size 42 2 v 2 [.bool false, .bool true, .bool false, .bool false] := by
  have h := SidesJ_any termW (some ⟨a, 0, none⟩) 4 ⟨#[62, 105, 105]⟩ (some ⟨b, 0, none⟩) 2 2 w (by decide) (by omega) (by decide) (by intro x hx; simp [termW] at hx; rcases hx with rfl | rfl | rfl | rfl <;> exact ⟨by decide, by decide, by decide⟩) (lt_sl hA)
  rw [chkPW] at h
  unfold SidesQ at h
  simp only [if_true, blW] at h
  exact h
theorem modulesW (a b c d : Nat) (w : World) (hA : Sl w w.heap.size 8 (some ⟨a, 0, none⟩) 4 (tns termW)) (hB : Sl w w.heap.size 5 (some ⟨b, 0, none⟩) 2 (cells [siteA, siteB])) :
    Calls Try.prog 14 #[.agg #[.slice (some ⟨a, 0, none⟩) 4 4, .string ⟨#[62, 105, 105]⟩, .slice (some ⟨b, 0, none⟩) 2 2]] w fun e w' => Below w.heap.size w w' ∧ ∃ v, e = .returned (.tuple #[v, .int .i64 0]) ∧ w'.ownsRow w.heap.size 9 1 v 1 [.string ⟨#[109, 97, 105, 110]⟩] := by
  have h := ModsJ_any termW (some ⟨a, 0, none⟩) 4 ⟨#[62, 105, 105]⟩ (some ⟨b, 0, none⟩) [siteA, siteB] 2 w (by decide) (by decide) (by decide) (by intro x hx; simp [termW] at hx; rcases hx with rfl | rfl | rfl | rfl <;> exact ⟨by decide, by decide, by decide⟩) (lt_sl hA) hB
    (by intro s hs; simp at hs; rcases hs with rfl | rfl <;> exact ⟨by decide, by decide⟩)
  rw [show [siteA, siteB].length = 2 from rfl, chkPW] at h
  refine h.mono ?_
  rintro e w' ⟨hb, hq⟩
  rw [if_pos rfl] at hq
  obtain ⟨v, ms, rfl, ho, hm⟩ := hq
  rw [modsW hm] at ho
  exact ⟨hb, v, rfl, ho⟩

set_option maxRecDepth 100000 in
set_option maxHeartbeats 2000000 in
theorem works_any (w : World) : Calls Try.prog 5 #[] w fun e w' => e = .returned (.bool true) ∧ Below w.heap.size w w' := by
  go_enter Try.func5, Try.ntmps5
  go_wp2_with fail
  obtain ⟨W, hW⟩ : ∃ W, ((w.alloc (.cells (tns termW).toArray 50)).alloc (.cells (cells [siteA, siteB]).toArray 52)).alloc (.cells #[.slice (some ⟨w.heap.size, 0, none⟩) 4 4, .string ⟨#[62, 105, 105]⟩, .slice (some ⟨w.heap.size + 1, 0, none⟩) 2 2] 25) = W := ⟨_, rfl⟩
  have k0 : Blk W w.heap.size 50 (tns termW).toArray := by rw [← hW]; exact ((Blk.new w _ _).alloc _).alloc _
  have k1 : Blk W (w.heap.size + 1) 52 (cells [siteA, siteB]).toArray := by rw [← hW]; have := Blk.new (w.alloc (.cells (tns termW).toArray 50)) 52 (cells [siteA, siteB]).toArray; simpa only [World.size_alloc] using Blk.alloc this (.cells #[.slice (some ⟨w.heap.size, 0, none⟩) 4 4, .string ⟨#[62, 105, 105]⟩, .slice (some ⟨w.heap.size + 1, 0, none⟩) 2 2] 25)
  have k2 : Blk W (w.heap.size + 2) 25 #[.slice (some ⟨w.heap.size, 0, none⟩) 4 4, .string ⟨#[62, 105, 105]⟩, .slice (some ⟨w.heap.size + 1, 0, none⟩) 2 2] := by rw [← hW]; have := Blk.new ((w.alloc (.cells (tns termW).toArray 50)).alloc (.cells (cells [siteA, siteB]).toArray 52)) 25 #[.slice (some ⟨w.heap.size, 0, none⟩) 4 4, .string ⟨#[62, 105, 105]⟩, .slice (some ⟨w.heap.size + 1, 0, none⟩) 2 2]; simpa only [World.size_alloc] using this
  have hbw : Below w.heap.size w W := by rw [← hW]; exact bal (bal (bal b0 _) _) _
  have hA : ∀ W', Below W.heap.size W W' → Sl W' W'.heap.size 8 (some ⟨w.heap.size, 0, none⟩) 4 (tns termW) := fun W' hb => sl_blk (k0.below hb k0.lt) rfl
  have hB : ∀ W', Below W.heap.size W W' → Sl W' W'.heap.size 5 (some ⟨w.heap.size + 1, 0, none⟩) 2 (cells [siteA, siteB]) := fun W' hb => sl_blk (k1.below hb k1.lt) rfl
  have hc1 := sidesW w.heap.size (w.heap.size + 1) 0 0 W (hA W (Below.refl _ _))
  change Calls _ _ _ (((w.alloc (.cells (tns termW).toArray 50)).alloc (.cells (cells [siteA, siteB]).toArray 52)).alloc (.cells #[.slice (some ⟨w.heap.size, 0, none⟩) 4 4, .string ⟨#[62, 105, 105]⟩, .slice (some ⟨w.heap.size + 1, 0, none⟩) 2 2] 25)) _
  rw [hW]
  have H1 := Lib.hid (And.intro k2 (And.intro hbw (And.intro hA hB)))
  clear hA hB k0 k1 k2 hbw hW
  obtain ⟨g, hg⟩ : ∃ g, w.heap.size = g := ⟨_, rfl⟩
  rw [hg] at hc1 H1 ⊢
  have HG := Lib.hid hg
  clear hg
  (refine hc1.mono ?_); rintro e w1 ⟨hb1, v, rfl, ho⟩
  obtain ⟨k2, hbw, hA, hB⟩ := H1.out
  have k21 := k2.below hb1 k2.lt
  have p0 : w1.cell? ⟨g + 1 + 1, 0, none⟩ = some (.slice (some ⟨g, 0, none⟩) 4 4) := (k21.cell 0).trans rfl
  have p1 : w1.cell? ⟨g + 1 + 1, 1, none⟩ = some (.string ⟨#[62, 105, 105]⟩) := (k21.cell 1).trans rfl
  have p2 : w1.cell? ⟨g + 1 + 1, 2, none⟩ = some (.slice (some ⟨g + 1, 0, none⟩) 2 2) := (k21.cell 2).trans rfl
  have hc2 := modulesW g (g + 1) 0 0 w1 (hA w1 hb1) (hB w1 hb1)
  obtain ⟨gs, cs, hv, hgs, hgl⟩ := ho.form (by omega)
  subst hv
  have H2 := Lib.hid (And.intro hb1 (And.intro hbw ho))
  clear hA hB k2 k21 hb1 hbw ho hc1
  go_wp2_with fail
  (refine hc2.mono ?_); rintro e w2 ⟨hb2, v, rfl, ho2⟩
  obtain ⟨gm, cm, hv, hgm, hgml⟩ := ho2.form (by omega)
  subst hv
  obtain ⟨hb1, hbw, ho⟩ := H2.out
  have ho' := own_below ho hb2
  have q0 : w2.cell? ⟨gs, 0, none⟩ = some (.bool false) := by have := ho'.cells (g := gs) rfl 0 _ rfl; rwa [add_flat, Nat.zero_add] at this
  have q1 : w2.cell? ⟨gs, 1, none⟩ = some (.bool true) := by have := ho'.cells (g := gs) rfl 1 _ rfl; rwa [add_flat, Nat.zero_add] at this
  have q2 : w2.cell? ⟨gs, 2, none⟩ = some (.bool false) := by have := ho'.cells (g := gs) rfl 2 _ rfl; rwa [add_flat, Nat.zero_add] at this
  have q3 : w2.cell? ⟨gs, 3, none⟩ = some (.bool false) := by have := ho'.cells (g := gs) rfl 3 _ rfl; rwa [add_flat, Nat.zero_add] at this
  have q4 : w2.cell? ⟨gm, 0, none⟩ = some (.string ⟨#[109, 97, 105, 110]⟩) := by have := ho2.cells (g := gm) rfl 0 _ rfl; rwa [add_flat, Nat.zero_add] at this
  have HF := Lib.hid (bl (bl (show Below w.heap.size w W by rw [HG.out]; exact hbw) hb1) hb2)
  clear ho ho' ho2 hb1 hb2 hbw hc2 p0 p1 p2
  go_wp2_with fail
  go_ret
  exact ⟨rfl, HF.out⟩
end Go.Proofs.Ytjklecncdinabaa.J

/- JuJ -/
namespace Go.Proofs.Ytjklecncdinabaa.J
open Go.RowKit Go.Proofs.Ytjklecncdinabaa.B Go.Proofs.Ytjklecncdinabaa.T Go.Proofs.Ytjklecncdinabaa.K Go.Proofs.Ytjklecncdinabaa.La
set_option linter.unusedVariables false
set_option linter.unusedSimpArgs false

set_option maxRecDepth 100000 in
theorem sizedJ (l : List Site) (A : Option Addr) (c : Nat) (w : World) (hl : l.length ≤ 16384) (hok : ∀ s ∈ l, s.mo.size ≤ 140737488351232 ∧ s.ex.size ≤ 140737488351232) (hA : Sl w w.heap.size 5 A l.length (cells l)) :
    Calls Try.prog 13 #[.slice A l.length c] w fun e w' => (∃ v, e = .returned (.bool v)) ∧ Below w.heap.size w w' := by
  have HA := Lib.hid hA
  have HO := Lib.hid hok
  clear hA hok
  go_enter Try.func13, Try.ntmps13
  go_wp2
  go_loopw [3, 4] (fun n i wr => ∃ (k N : Nat), k ≤ l.length ∧ i = .int .i64 k ∧ n = .int .i64 N ∧ N ≤ 4194304 ∧ ∃ m, wr = w.drewN m) (fun _ i _ => l.length - (intOf i).toNat)
  case atStart => exact ⟨0, 0, Nat.zero_le _, rfl, rfl, by omega, 0, rfl⟩
  case round =>
    obtain ⟨k, N, hk, rfl, rfl, hN, m, rfl⟩ := hrel
    by_cases hlt : k < l.length
    · obtain ⟨s, hs⟩ : ∃ s, l[k]? = some s := ⟨_, List.getElem?_eq_getElem hlt⟩
      obtain ⟨b, o, rfl, hb, c0, c1, _⟩ := site_cells HA.out hs
      obtain ⟨b0, b1⟩ := HO.out s (List.mem_of_getElem? hs)
      by_cases hbig : N + s.mo.size + s.ex.size ≤ 4194304
      · go_wp2
        go_quiet (fail)
        go_wp2
        go_roundw
        case rel => exact ⟨k + 1, N + s.mo.size + s.ex.size, by omega, by go_num, by go_num, hbig, m + nq, rfl⟩
        case measure => simp [intOf]; omega
      · go_wp2
        go_quiet (fail)
        go_wp2
        go_ret
        exact ⟨⟨_, rfl⟩, below_drewN (Below.refl _ _) _⟩
    · obtain rfl : k = l.length := by omega
      go_wp2
      go_ret
      exact ⟨⟨_, rfl⟩, below_drewN (Below.refl _ _) _⟩
theorem longJ (n : Int) (w : World) : Calls Try.prog 11 #[.int .i64 n] w fun e w' => e = .returned (.bool (decide (2147483647 < n))) ∧ w = w' := by
  go_enter Try.func11, Try.ntmps11
  go_wp2
  go_ret
  exact ⟨rfl, rfl⟩

/-- What much answers. -/
def MuchJ (n m : Nat) (w : World) (e : Ending) (w' : World) : Prop := (∃ v, e = .returned (.bool v) ∧ (v = false → n ≤ 32768 ∧ m ≤ 16384)) ∧ Below w.heap.size w w'
set_option maxRecDepth 100000 in
theorem muchJ (L : List Tn) (A : Option Addr) (c : Nat) (T : ByteArray) (l : List Site) (B : Option Addr) (d : Nat) (w : World) (hL : L.length ≤ 9223372036854775807) (hl : l.length ≤ 9223372036854775807) (hS : ∀ x ∈ L, x.small) (hok : ∀ s ∈ l, s.mo.size ≤ 140737488351232 ∧ s.ex.size ≤ 140737488351232)
    (hA : LT w w.heap.size A L) (hB : Sl w w.heap.size 5 B l.length (cells l)) :
    Calls Try.prog 4 #[.agg #[.slice A L.length c, .string T, .slice B l.length d]] w fun e w' => MuchJ L.length l.length w e w' := by
  have hsz := fun W (hb : Below w.heap.size w W) (h : L.length ≤ 32768) => sizeNodes_w L A c W (by omega) hS ((hA.below hb).fresh (Nat.le_refl _))
  have hsd := fun W (hb : Below w.heap.size w W) (h : l.length ≤ 16384) => sizedJ l B d W h hok ((hB.below hb).more hb.size)
  have H := Lib.hid (And.intro hsz hsd)
  generalize L.length = N at *
  generalize l.length = M at *
  clear hsz hsd hA hB hok hS
  by_cases h1 : 32768 < N
  · go_enter Try.func4, Try.ntmps4
    go_wp2_with fail
    go_ret
    exact ⟨⟨true, rfl, by simp⟩, bal b0 _⟩
  by_cases h2 : 16384 < M
  · go_enter Try.func4, Try.ntmps4
    go_wp2_with fail
    go_ret
    exact ⟨⟨true, rfl, by simp⟩, bal b0 _⟩
  have e1 : decide ((32768 : Int) < (N : Int)) = false := by simp; omega
  have e2 : decide ((16384 : Int) < (M : Int)) = false := by simp; omega
  have HH := Lib.hid (And.intro h1 h2)
  clear h1 h2
  go_enter Try.func4, Try.ntmps4
  go_wp2_with fail
  obtain ⟨W, hW⟩ : ∃ W, w.alloc (.cells #[.slice A N c, .string T, .slice B M d] 25) = W := ⟨_, rfl⟩
  have hbk : Blk W w.heap.size 25 #[.slice A N c, .string T, .slice B M d] := by rw [← hW]; exact Blk.new _ _ _
  have hbw : Below w.heap.size w W := by rw [← hW]; exact bal b0 _
  rw [hW]
  clear hW
  have hc1 := H.out.1 W hbw (by have := HH.out.1; omega)
  have HB := Lib.hid (And.intro hbk hbw)
  clear hbk hbw
  (refine hc1.mono ?_); rintro e w1 ⟨v, rfl, hb1⟩
  obtain ⟨hbk, hbw⟩ := HB.out
  have hk1 := hbk.below hb1 hbk.lt
  have k2 : w1.cell? ⟨w.heap.size, 2, none⟩ = some (.slice B M d) := (hk1.cell 2).trans rfl
  have H1 := Lib.hid (bl hbw hb1)
  clear hbk hbw hk1 hb1 hc1
  go_wp2_with fail
  (refine (longJ v _).mono ?_); rintro e w2 ⟨rfl, rfl⟩
  obtain ⟨q, hq⟩ : ∃ q, decide (2147483647 < v) = q := ⟨_, rfl⟩
  rw [hq]
  clear hq
  cases q
  · have hc2 := H.out.2 w1 H1.out (by have := HH.out.2; omega)
    go_wp2_with fail
    (refine hc2.mono ?_); rintro e w2 ⟨⟨q, rfl⟩, hb2⟩
    have H2 := Lib.hid (bl H1.out hb2)
    clear hb2 hc2
    go_wp2_with fail
    go_ret
    exact ⟨⟨_, rfl, fun _ => by have := HH.out; omega⟩, H2.out⟩
  · go_wp2_with fail
    go_ret
    exact ⟨⟨_, rfl, by simp⟩, H1.out⟩
end Go.Proofs.Ytjklecncdinabaa.J

/- ReBP -/
namespace Go.Proofs.Ytjklecncdinabaa.T
open Go.RowKit Go.Proofs.Ytjklecncdinabaa.B
set_option linter.unusedSimpArgs false
set_option linter.unusedVariables false

set_option maxRecDepth 100000 in
theorem walkP_any (ask : Ty → Ty → Int) (hA : Asks ask)
    (hask : ∀ S T W, S.ok → T.ok → Calls Try.prog 20 #[.string (str S), .string (str T)] W fun e w' => e = .returned (.int .i64 (ask S T)) ∧ ∃ n, w' = W.drewN n)
    (b5 b7 : Nat) (fuel : Nat) : ∀ (S T : Ty) (w : World) (hf : S.code.length ≤ fuel) (hS : S.ok) (hT : T.ok) (hS64 : S.code.length ≤ 64) (hT64 : T.code.length ≤ 64) (h5 : b5 < w.heap.size) (h7 : b7 < w.heap.size)
    (c5 : w.cell? ⟨b5, 0, none⟩ = some (.func (.func 20) #[] #[])) (c7 : w.cell? ⟨b7, 0, none⟩ = some (.func (.func 30) #[] #[.pointer (some ⟨b5, 0, none⟩), .pointer (some ⟨b7, 0, none⟩)])),
    Calls Try.prog 30 #[.string (str S), .string (str T), .pointer (some ⟨b5, 0, none⟩), .pointer (some ⟨b7, 0, none⟩)] w fun e w' => e = .returned (.bool (allT ask S T)) ∧ Below w.heap.size w w' := by
  induction fuel with
  | zero => intro S T w hf; have := S.code_pos; omega
  | succ fuel ih =>
  intro S T w hf hS hT hS64 hT64 h5 h7 c5 c7
  have IH := Lib.hid ih
  clear ih
  have ha := hask S T w hS hT
  obtain ⟨q, hq⟩ : ∃ q, ask S T = q := ⟨_, rfl⟩
  rw [hq] at ha
  have hq0 := hA.lo S T
  have hq1 := hA.hi S T
  have hkl : q < 0 → S.kids.length = T.kids.length := fun h => kids_len hS hT (hA.neg S T (by omega))
  have hres := allT_kids (ask := ask) hS hT hA
  rw [hq] at hq0 hq1 hres
  have hP1 := fun W => Parts_yes S W hS hS64
  have hP2 := fun W => Parts_yes T W hT hT64
  have hk1 : ∀ x ∈ S.kids, x.ok := fun x hx => Ty.kids_ok hS hx
  have hk2 : ∀ x ∈ T.kids, x.ok := fun x hx => Ty.kids_ok hT hx
  have hm1 : ∀ x ∈ S.kids, x.code.length ≤ fuel ∧ x.code.length ≤ 64 := fun x hx => by have := Ty.kid_code hx; omega
  have hm2 : ∀ x ∈ T.kids, x.code.length ≤ 64 := fun x hx => by have := Ty.kid_code hx; omega
  obtain ⟨s, hs⟩ : ∃ s, str S = s := ⟨_, rfl⟩
  obtain ⟨t, ht⟩ : ∃ t, str T = t := ⟨_, rfl⟩
  rw [hs] at ha hP1
  rw [ht] at ha hP2
  rw [hs, ht]
  have HQ := Lib.hid hres
  have HK1 := Lib.hid hk1
  have HK2 := Lib.hid hk2
  have HM1 := Lib.hid hm1
  have HM2 := Lib.hid hm2
  by_cases h0 : 0 ≤ q
  · clear hq hs ht hres hk1 hk2 hm1 hm2 hkl hP1 hP2
    go_enter Try.func30, Try.ntmps30
    go_wp2_with fail
    go_step3
    go_wp2_with fail
    refine ha.mono ?_
    rintro e w' ⟨rfl, n, rfl⟩
    go_wp2_with fail
    rw [Exit.noGoto_ret]
    go_ret
    exact ⟨by rw [HQ.out, if_pos h0]; rfl, below_drewN (Below.refl _ _) _⟩
  · have hlen := hkl (by omega)
    have HLEN := Lib.hid hlen
    have hall : Hid (allT ask S T = (S.kids.zip T.kids).all fun p => allT ask p.1 p.2) := by show _ = _; rw [hres, if_neg h0]
    clear hq hs ht hres hk1 hk2 hm1 hm2 hkl hlen
    go_enter Try.func30, Try.ntmps30
    go_wp2_with fail
    go_step3
    go_wp2_with fail
    refine ha.mono ?_
    rintro e w' ⟨rfl, n, rfl⟩
    go_wp2_with fail
    refine (hP1 _).mono ?_
    rintro e w1 ⟨v1, rfl, ho1, hb1⟩
    obtain ⟨A1, cap1, rfl, _, _, hs1⟩ := Sl.of_own ho1
    go_wp2_with fail
    refine (hP2 _).mono ?_
    rintro e w2 ⟨v2, rfl, ho2, hb2⟩
    obtain ⟨A2, cap2, rfl, _, _, hs2⟩ := Sl.of_own ho2
    have hs1' := (hs1.below hb2).more hb2.size
    have hc2 := bl (bl (bdr (b0 (a := w)) n) hb1) hb2
    clear ho1 ho2 hs1 hb1 hb2 ha hP1 hP2
    obtain ⟨K1, hK1⟩ : ∃ K1, S.kids = K1 := ⟨_, rfl⟩
    obtain ⟨K2, hK2⟩ : ∃ K2, T.kids = K2 := ⟨_, rfl⟩
    rw [hK1] at HK1 HM1 HLEN hall hs1'
    rw [hK2] at HK2 HM2 HLEN hall hs2
    rw [hK1, hK2]
    have hK12 : K1.length ≤ 2 := by rw [← hK1]; exact Ty.kids_le S
    clear hK1 hK2
    go_wp2_with fail
    go_step3
    go_wp2_with fail
    go_loopg [8, 11, 26] K1.length (fun g gd _ i wr => ∃ j : Nat, j ≤ K1.length ∧ g = K1.length - j ∧ gd = .bool true ∧ i = .int .i64 j ∧ Below w.heap.size w wr ∧ Below w2.heap.size w2 wr ∧ Hid (∀ m S' T', m < j → K1[m]? = some S' → K2[m]? = some T' → allT ask S' T' = true))
    case atStart => exact ⟨0, by omega, rfl, rfl, rfl, hc2, Below.refl _ _, fun m _ _ h => by omega⟩
    case round =>
      obtain ⟨j, hj, rfl, rfl, rfl, hbr, hb2r, hdone⟩ := hrel
      by_cases hlt : j < K1.length
      · obtain ⟨S', hS'⟩ : ∃ S', K1[j]? = some S' := ⟨_, List.getElem?_eq_getElem hlt⟩
        obtain ⟨T', hT'⟩ : ∃ T', K2[j]? = some T' := ⟨_, List.getElem?_eq_getElem (by rw [← HLEN.out]; exact hlt)⟩
        have hlt2 : j < K2.length := by rw [← HLEN.out]; exact hlt
        obtain ⟨g1, o1, rfl, hg1, hcs1⟩ := hs1'.at_ (by omega)
        obtain ⟨g2, o2, rfl, hg2, hcs2⟩ := hs2.at_ (by omega)
        have e1 : wr.cell? ⟨g1, o1 + j, none⟩ = some (.string (str S')) := (hb2r.cell (p := ⟨g1, o1 + j, none⟩) hg1).trans (hcs1 j _ (by rw [List.getElem?_map, hS']; rfl))
        have e2 : wr.cell? ⟨g2, o2 + j, none⟩ = some (.string (str T')) := (hb2r.cell (p := ⟨g2, o2 + j, none⟩) hg2).trans (hcs2 j _ (by rw [List.getElem?_map, hT']; rfl))
        have e5 : wr.cell? ⟨b5, 0, none⟩ = some (.func (.func 20) #[] #[]) := (hbr.cell (p := ⟨b5, 0, none⟩) h5).trans c5
        have e7 : wr.cell? ⟨b7, 0, none⟩ = some (.func (.func 30) #[] #[.pointer (some ⟨b5, 0, none⟩), .pointer (some ⟨b7, 0, none⟩)]) := (hbr.cell (p := ⟨b7, 0, none⟩) h7).trans c7
        have hm1 := HM1.out S' (List.mem_of_getElem? hS')
        have hm2 := HM2.out T' (List.mem_of_getElem? hT')
        have hz := hbr.size
        have hcall := fun W h5 h7 c5 c7 => IH.out S' T' W hm1.1 (HK1.out S' (List.mem_of_getElem? hS')) (HK2.out T' (List.mem_of_getElem? hT')) hm1.2 hm2 h5 h7 c5 c7
        obtain ⟨r, hr⟩ : ∃ r, allT ask S' T' = r := ⟨_, rfl⟩
        obtain ⟨s', hs'⟩ : ∃ s', str S' = s' := ⟨_, rfl⟩
        obtain ⟨t', ht'⟩ : ∃ t', str T' = t' := ⟨_, rfl⟩
        rw [hs', ht', hr] at hcall
        rw [hs'] at e1
        rw [ht'] at e2
        have HSj := Lib.hid hS'
        have HTj := Lib.hid hT'
        have HR := Lib.hid hr
        have HD := Lib.hid hdone
        clear hS' hT' hr hs' ht' hdone hs1' hs2 hcs1 hcs2 hm1 hm2 c5 c7
        go_wp2_with fail
        go_still_tail 9, (by kernel_rfl)
        change wpList _ _ _ _ _ wr.drew
        go_wp2_with fail
        refine (hcall _ (by simp; omega) (by simp; omega) (by simpa using e5) (by simpa using e7)).mono ?_
        rintro e w3 ⟨rfl, hb3⟩
        have hb3' : Below wr.heap.size wr w3 := ((Below.refl wr.heap.size wr).drew).trans hb3
        cases r
        · go_wp2_with fail
          rw [Exit.noGoto_ret]
          go_ret
          exact ⟨by rw [hall.out, zip_not _ HSj.out HTj.out HR.out]; rfl, bl hbr hb3'⟩
        · go_wp2_with fail
          go_roundg (K1.length - (j + 1))
          case measure => omega
          case rel =>
            refine ⟨j + 1, by omega, rfl, rfl, by go_num, bl hbr hb3', bl hb2r hb3', ?_⟩
            intro m S'' T'' hm h1 h2
            rcases Nat.lt_or_ge m j with h | h
            · exact HD.out m S'' T'' h h1 h2
            · obtain rfl : m = j := by omega
              rw [HSj.out] at h1
              rw [HTj.out] at h2
              cases h1; cases h2
              exact HR.out
      · obtain rfl : j = K1.length := by omega
        go_wp2_with fail
        rw [Exit.noGoto_ret]
        go_ret
        refine ⟨?_, hbr⟩
        rw [hall.out, zip_all HLEN.out _ hdone.out]
        rfl

end Go.Proofs.Ytjklecncdinabaa.T

/- ReP -/
namespace Go.Proofs.Ytjklecncdinabaa.T
open Go.RowKit Go.Proofs.Ytjklecncdinabaa.B
set_option linter.unusedSimpArgs false
set_option linter.unusedVariables false


theorem askP_any (S T : Ty) (w : World) (hS : S.ok) (hT : T.ok) : Calls Try.prog 20 #[.string (str S), .string (str T)] w fun e w' => e = .returned (.int .i64 (askP S T)) ∧ ∃ n, w' = w.drewN n := by
  obtain ⟨p1, e1⟩ := str_head S
  obtain ⟨p2, e2⟩ := str_head T
  have q2 := str_q hT
  unfold askP
  generalize S.head = a at *
  generalize T.head = b at *
  generalize str S = s at *
  generalize str T = t at *
  clear hS hT S T
  have hb := byte_neq a b
  by_cases hb63 : b = 63
  · rw [if_pos hb63]
    rw [hb63] at q2
    have q2' : (t.toList == [63]) = true := q2
    clear e1 e2 q2 hb hb63
    go_enter Try.func20, Try.ntmps20
    go_wp2_with fail
    go_ret
    exact ⟨rfl, 0, rfl⟩
  · have q2' : (t.toList == [63]) = false := by rw [q2]; simpa using hb63
    rw [if_neg hb63]
    by_cases hab : a = b
    · have hb' : ((a.toNat : Int) != (b.toNat : Int)) = false := by rw [hb]; simpa using hab
      rw [if_pos hab]
      clear q2 hb hb63 hab
      go_enter Try.func20, Try.ntmps20
      go_wp2_with fail
      go_quiet (fail)
      go_wp2_with fail
      go_ret
      exact ⟨rfl, _, rfl⟩
    · have hb' : ((a.toNat : Int) != (b.toNat : Int)) = true := by rw [hb]; simpa using hab
      rw [if_neg hab]
      clear q2 hb hb63 hab
      go_enter Try.func20, Try.ntmps20
      go_wp2_with fail
      go_quiet (fail)
      go_wp2_with fail
      go_ret
      exact ⟨rfl, _, rfl⟩


theorem Prec_yes (S T : Ty) (w : World) (hS : S.ok) (hT : T.ok) (hS64 : S.code.length ≤ 64) (hT64 : T.code.length ≤ 64) :
    Calls Try.prog 10 #[.string (str S), .string (str T)] w fun e w' => e = .returned (.bool (allT askP S T)) ∧ Below w.heap.size w w' := by
  have h1 := fun W => isRel_any (str S) W (by simp [str]; omega)
  have h2 := fun W => isRel_any (str T) W (by simp [str]; omega)
  rw [isB_str hS hS64] at h1
  rw [isB_str hT hT64] at h2
  have hw := fun b5 b7 W => walkP_any askP askP_asks askP_any b5 b7 64 S T W hS64 hS hT hS64 hT64
  generalize allT askP S T = r at *
  generalize str S = s at *
  generalize str T = t at *
  have HW := Lib.hid hw
  clear hw
  have hall : ∀ W, Calls Try.prog 19 #[.string s, .string t, .func (.func 20) #[] #[]] W fun e w' => e = .returned (.bool r) ∧ Below W.heap.size W w' := by
    intro W
    go_enter Try.func19, Try.ntmps19
    go_wp2_with fail
    refine (h1 _).mono ?_
    rintro e w' ⟨rfl, rfl⟩
    go_wp2_with fail
    refine (h2 _).mono ?_
    rintro e w' ⟨rfl, rfl⟩
    go_wp2_with fail
    refine (HW.out _ _ _ (by simp; omega) (by simp) (by simp) (by simp)).mono ?_
    rintro e w1 ⟨rfl, hb⟩
    go_wp2_with fail
    go_ret
    exact ⟨rfl, bl (bal (bal b0 _) _) hb⟩
  clear h1 h2
  go_enter Try.func10, Try.ntmps10
  go_wp2_with (go_at_call 19; refine (hall _).mono ?_; rintro e w1 ⟨rfl, hb⟩)
  go_ret
  exact ⟨rfl, hb⟩
end Go.Proofs.Ytjklecncdinabaa.T
