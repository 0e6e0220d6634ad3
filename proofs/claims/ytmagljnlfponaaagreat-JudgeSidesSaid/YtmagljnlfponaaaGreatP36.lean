/- Parts of this claim: RuD, JuI, JuJ. -/
import Derived.Test.YtmagljnlfponaaaGreatP35
import Derived.Test.YtmagljnlfponaaaGreatP31
import Derived.Test.YtmagljnlfponaaaGreatP33
import Derived.Test.YtmagljnlfponaaaGreatP24
set_option linter.unusedVariables false
set_option linter.unusedSimpArgs false
/- RuD -/
namespace Go.Proofs.YtmagljnlfponaaaGreat.R
open Go.RowKit Go.Proofs.YtmagljnlfponaaaGreat.B Go.Proofs.YtmagljnlfponaaaGreat.T Go.Proofs.YtmagljnlfponaaaGreat.K Go.Proofs.YtmagljnlfponaaaGreat.J Go.Proofs.YtmagljnlfponaaaGreat.La
set_option linter.unusedVariables false
set_option linter.unusedSimpArgs false

theorem eqNodes_any (L : List Tn) (A A' : Option Addr) (c c' : Nat) (w : World) (hl : L.length ≤ 1000000) (hA : LT w w.heap.size A L) (hA' : LT w w.heap.size A' L) :
    Calls Tryz.prog 30 #[.slice A L.length c, .slice A' L.length c'] w fun e w' => e = .returned (.bool true) ∧ Below w.heap.size w w' := by
  have HA := Lib.hid (And.intro hA hA')
  clear hA hA'
  go_enter Tryz.func30, Tryz.ntmps30
  go_wp2_with fail
  go_loopg [5] L.length (fun g i wr => ∃ k : Nat, k ≤ L.length ∧ g = L.length - k ∧ i = .int .i64 k ∧ ∃ m, wr = w.drewN m)
  case atStart => exact ⟨0, by omega, rfl, rfl, 0, rfl⟩
  case round =>
    obtain ⟨k, hk, rfl, rfl, m, rfl⟩ := hrel
    by_cases h1 : k < L.length
    · obtain ⟨s, hs⟩ : ∃ s, L[k]? = some s := ⟨_, List.getElem?_eq_getElem h1⟩
      obtain ⟨bb, o, rfl, _, hbb, c0, c1, c2, c3, c4, c5, c6, c7⟩ := HA.out.1.node hs
      obtain ⟨bb', o', rfl, _, hbb', d0, d1, d2, d3, d4, d5, d6, d7⟩ := HA.out.2.node hs
      go_wp2_with fail
      go_quiet (fail)
      go_wp2_with fail
      go_roundg (L.length - (k + 1))
      case measure => omega
      case rel => exact ⟨k + 1, by omega, rfl, by go_num, m + nq, rfl⟩
    · go_wp2_with fail
      go_ret
      exact ⟨rfl, below_drewN (Below.refl _ _) _⟩

theorem eqSitesR_any (l : List Site) (A A' : Option Addr) (c c' : Nat) (w : World) (hl : l.length ≤ 1000000) (hA : Sl w w.heap.size 5 A l.length (cells l)) (hA' : Sl w w.heap.size 5 A' l.length (cells l)) :
    Calls Tryz.prog 31 #[.slice A l.length c, .slice A' l.length c'] w fun e w' => e = .returned (.bool true) ∧ Below w.heap.size w w' := by
  have HA := Lib.hid (And.intro hA hA')
  clear hA hA'
  go_enter Tryz.func31, Tryz.ntmps31
  go_wp2_with fail
  go_loopg [5] l.length (fun g i wr => ∃ k : Nat, k ≤ l.length ∧ g = l.length - k ∧ i = .int .i64 k ∧ ∃ m, wr = w.drewN m)
  case atStart => exact ⟨0, by omega, rfl, rfl, 0, rfl⟩
  case round =>
    obtain ⟨k, hk, rfl, rfl, m, rfl⟩ := hrel
    by_cases h1 : k < l.length
    · obtain ⟨s, hs⟩ : ∃ s, l[k]? = some s := ⟨_, List.getElem?_eq_getElem h1⟩
      obtain ⟨bb, o, rfl, hbb, c0, c1, c2, c3, c4⟩ := La.site_cells HA.out.1 hs
      obtain ⟨bb', o', rfl, hbb', d0, d1, d2, d3, d4⟩ := La.site_cells HA.out.2 hs
      go_wp2_with fail
      go_quiet (fail)
      go_wp2_with fail
      go_roundg (l.length - (k + 1))
      case measure => omega
      case rel => exact ⟨k + 1, by omega, rfl, by go_num, m + nq, rfl⟩
    · go_wp2_with fail
      go_ret
      exact ⟨rfl, below_drewN (Below.refl _ _) _⟩

set_option maxRecDepth 100000 in
theorem eqProgram_any (L : List Tn) (T : ByteArray) (l : List Site) (A A' : Option Addr) (c c' : Nat) (B B' : Option Addr) (d d' : Nat) (w : World) (hL : L.length ≤ 1000000) (hl : l.length ≤ 1000000) (hA : LT w w.heap.size A L) (hA' : LT w w.heap.size A' L) (hB : Sl w w.heap.size 5 B l.length (cells l)) (hB' : Sl w w.heap.size 5 B' l.length (cells l)) :
    Calls Tryz.prog 13 #[.agg #[.slice A L.length c, .string T, .slice B l.length d], .agg #[.slice A' L.length c', .string T, .slice B' l.length d']] w fun e w' => e = .returned (.bool true) ∧ Below w.heap.size w w' := by
  have HN := Lib.hid (fun W (h : Below w.heap.size w W) => eqNodes_any L A A' c c' W hL ((hA.below h).fresh (Nat.le_refl _)) ((hA'.below h).fresh (Nat.le_refl _)))
  have HS := Lib.hid (fun W (h : Below w.heap.size w W) => eqSitesR_any l B B' d d' W hl ((hB.below h).more h.size) ((hB'.below h).more h.size))
  clear hA hA' hB hB' hL hl
  generalize L.length = N at *
  generalize l.length = M at *
  have hb1 : Below w.heap.size w ((w.alloc (.cells #[.slice A N c, .string T, .slice B M d] 25)).alloc (.cells #[.slice A' N c', .string T, .slice B' M d'] 25)) := bal (bal b0 _) _
  have HB := Lib.hid hb1
  have ht : (T.toList == T.toList) = true := by simp
  obtain ⟨W1, hW1⟩ : ∃ W1, ((w.alloc (.cells #[.slice A N c, .string T, .slice B M d] 25)).alloc (.cells #[.slice A' N c', .string T, .slice B' M d'] 25)) = W1 := ⟨_, rfl⟩
  have hk1 : Blk W1 w.heap.size 25 #[.slice A N c, .string T, .slice B M d] := by rw [← hW1]; exact (Blk.new w _ _).alloc _
  have hk2 : Blk W1 (w.heap.size + 1) 25 #[.slice A' N c', .string T, .slice B' M d'] := by
    rw [← hW1]
    have := Blk.new (w.alloc (.cells #[.slice A N c, .string T, .slice B M d] 25)) 25 #[.slice A' N c', .string T, .slice B' M d']
    simpa only [World.size_alloc] using this
  rw [hW1] at HB
  have HW := Lib.hid hW1
  have HK := Lib.hid (And.intro hk1 hk2)
  clear hb1 hW1 hk1 hk2
  go_enter Tryz.func13, Tryz.ntmps13
  go_wp2_with fail
  rw [HW.out]
  (refine (HN.out W1 HB.out).mono ?_); rintro e w2 ⟨rfl, hb2⟩
  have k2 : w2.cell? ⟨w.heap.size, 2, none⟩ = some (.slice B M d) := ((HK.out.1.below hb2 HK.out.1.lt).cell 2).trans rfl
  have j2 : w2.cell? ⟨w.heap.size + 1, 2, none⟩ = some (.slice B' M d') := ((HK.out.2.below hb2 HK.out.2.lt).cell 2).trans rfl
  have H2 := Lib.hid (bl HB.out hb2)
  clear hb2
  go_wp2_with fail
  (refine (HS.out w2 H2.out).mono ?_); rintro e w3 ⟨rfl, hb3⟩
  have H3 := Lib.hid (bl H2.out hb3)
  clear hb3
  go_wp2_with fail
  go_ret
  exact ⟨rfl, H3.out⟩

theorem infoOb : (Tryz.prog.info? 82).map (fun i => (i.zero, i.size, i.bytes)) = some (some (.agg #[.int .i8 0, .int .i64 0, .string ⟨#[]⟩]), 3, 32) := by kernel_rfl
theorem obs_one (l : List Ob) : ∀ u ∈ obs l, u.oneCell' = true := by
  intro u hu
  obtain ⟨s, _, hs⟩ := List.mem_flatMap.1 hu
  simp [Ob.vs] at hs
  rcases hs with rfl | rfl | rfl <;> rfl
theorem copySeenJ (l : List Ob) (A : Option Addr) (c : Nat) (w : World) (hl : l.length ≤ 1000000) (hA : Sl w w.heap.size 3 A l.length (obs l)) :
    Calls Tryz.prog 12 #[.slice A l.length c] w fun e w' => ∃ A' c', e = .returned (.slice A' l.length c') ∧ l.length ≤ c' ∧ Sl w' w'.heap.size 3 A' l.length (obs l) ∧ Below w.heap.size w w' := by
  obtain ⟨i0, hi0, hz0, hz1, hz2⟩ := info_parts infoOb
  go_enter Tryz.func12, Tryz.ntmps12
  go_wp2_with (at_builtin; refine wpList_append_sl _ rfl (.tmp 4) (.tmp 5) _ rfl w.heap.size 82 i0 _ 3 32 Tryz.underlying26 hi0 hz0 hz1 hz2 rfl (by omega) (.slice none 0 0) 0 [] rfl (World.ownsRow_nil _ _ _ _) w.heap.size A l.length c (obs l) rfl hA (obs_one l) (by simp only [maxLen]; omega) (by omega) (Nat.le_refl _) ?_; intro v1 w1 hown hg hat)
  obtain ⟨A', c', hv, hc1, _, hsl⟩ := Sl.of_own hown
  simp only [Nat.zero_add, List.nil_append] at hv hsl hc1
  rw [hv]
  go_ret
  exact ⟨A', c', rfl, hc1, hsl, (Below.refl _ _).grown hg (Nat.le_refl _) (by simp [Value.ownBlock])⟩
end Go.Proofs.YtmagljnlfponaaaGreat.R

/- JuI -/
namespace Go.Proofs.YtmagljnlfponaaaGreat.J
open Go.RowKit Go.Proofs.YtmagljnlfponaaaGreat.B Go.Proofs.YtmagljnlfponaaaGreat.T Go.Proofs.YtmagljnlfponaaaGreat.K Go.Proofs.YtmagljnlfponaaaGreat.La
set_option linter.unusedVariables false
set_option linter.unusedSimpArgs false

def tQI : Ty := .bin 62 (.leaf 63) (.leaf 105)
def tII : Ty := .bin 62 (.leaf 105) (.leaf 105)
theorem okQI : tQI.ok := ⟨by decide, (by decide : arB 63 = 0), (by decide : arB 105 = 0)⟩
theorem okII : tII.ok := ⟨by decide, (by decide : arB 105 = 0), (by decide : arB 105 = 0)⟩
theorem okI : (Ty.leaf 105).ok := (by decide : arB 105 = 0)
def n0 : Tn := ⟨30, 1, 2, ⟨#[]⟩, ⟨#[62, 63, 105]⟩, ⟨#[62, 105, 105]⟩, 0, 0⟩
def n1 : Tn := ⟨30, 1, 1, ⟨#[]⟩, ⟨#[62, 105, 105]⟩, ⟨#[62, 63, 105]⟩, 0, 0⟩
def n2 : Tn := ⟨5, 1, 0, ⟨#[]⟩, ⟨#[105]⟩, ⟨#[105]⟩, 0, 0⟩
def n3 : Tn := ⟨4, 0, 0, ⟨#[]⟩, ⟨#[]⟩, ⟨#[]⟩, 0, 0⟩
def termW : List Tn := [n0, n1, n2, n3]
theorem sQI : (⟨#[62, 63, 105]⟩ : ByteArray) = str tQI := rfl
theorem sII : (⟨#[62, 105, 105]⟩ : ByteArray) = str tII := rfl
theorem sI : (⟨#[105]⟩ : ByteArray) = str (.leaf 105) := rfl
theorem bQI : isB ⟨#[62, 63, 105]⟩ = true := by rw [sQI]; exact isB_str okQI (by decide)
theorem bII : isB ⟨#[62, 105, 105]⟩ = true := by rw [sII]; exact isB_str okII (by decide)
theorem bI : isB ⟨#[105]⟩ = true := by rw [sI]; exact isB_str okI (by decide)
theorem yQI : ty ⟨#[62, 63, 105]⟩ = tQI := by rw [sQI]; exact ty_str okQI (by decide)
theorem yII : ty ⟨#[62, 105, 105]⟩ = tII := by rw [sII]; exact ty_str okII (by decide)
theorem yI : ty ⟨#[105]⟩ = .leaf 105 := by rw [sI]; exact ty_str okI (by decide)
theorem w0 : wordsE n0 0 = 0 := by simp [wordsE, n0, bQI, bII, yQI, yII, show allT askC tQI tII = true by decide]
theorem w1' : wordsE n1 0 = 0 := by simp [wordsE, n1, bQI, bII, yQI, yII, show allT askC tII tQI = true by decide]
theorem w2 : wordsE n2 0 = 0 := by simp [wordsE, n2, bI]
theorem w3 : wordsE n3 1 = 0 := by simp [wordsE, n3]
theorem y3 : tyT n3 .nil [.leaf 105] 3 = .ok (.leaf 105) := by unfold tyT; rw [show ([Ty.leaf 105]).length = 1 from rfl, w3]; rfl
theorem y2 : tyT n2 (.cons n3 .nil .nil) [] 2 = .ok tII := by
  unfold tyT
  rw [show ([] : List Ty).length = 0 from rfl, w2]
  simp only [n2, show ¬ ((5 : Int) = 4) by decide, if_false, if_true, yI, ne_eq, not_true_eq_false]
  rw [made_pos (by decide : (Ty.bin 62 (.leaf 105) (.leaf 105)).code.length ≤ 64), Rs.then_ok, tyF_cons, y3, Rs.then_ok]
  simp only [tyF, Rs.then_ok, List.getD_cons_zero]
  rw [want_pos trivial]
  rfl
theorem y1 : tyT n1 (.cons n2 (.cons n3 .nil .nil) .nil) [] 1 = .ok tQI := by
  unfold tyT
  rw [show ([] : List Ty).length = 0 from rfl, w1']
  simp only [show n1.kd = 30 from rfl, show ¬ ((30 : Int) = 4) by decide, show ¬ ((30 : Int) = 5) by decide, show ¬ ((30 : Int) = 6) by decide, show ¬ ((30 : Int) = 8) by decide, if_false, ne_eq, not_true_eq_false]
  rw [tyF_cons, y2]
  simp only [tyF, Rs.then_ok]
  simp only [ruleE, show n1.kd = 30 from rfl, show ¬ ((30 : Int) = 1) by decide, show ¬ ((30 : Int) = 2) by decide, show ¬ ((30 : Int) = 3) by decide, if_false, if_true, List.getD_cons_zero]
  rw [want_pos (by exact yII.symm)]
  exact congrArg Rs.ok yQI
theorem y0 : tyT n0 (.cons n1 (.cons n2 (.cons n3 .nil .nil) .nil) .nil) [] 0 = .ok tII := by
  unfold tyT
  rw [show ([] : List Ty).length = 0 from rfl, w0]
  simp only [show n0.kd = 30 from rfl, show ¬ ((30 : Int) = 4) by decide, show ¬ ((30 : Int) = 5) by decide, show ¬ ((30 : Int) = 6) by decide, show ¬ ((30 : Int) = 8) by decide, if_false, ne_eq, not_true_eq_false]
  rw [tyF_cons, y1]
  simp only [tyF, Rs.then_ok]
  simp only [ruleE, show n0.kd = 30 from rfl, show ¬ ((30 : Int) = 1) by decide, show ¬ ((30 : Int) = 2) by decide, show ¬ ((30 : Int) = 3) by decide, if_false, if_true, List.getD_cons_zero]
  rw [want_pos (by exact yQI.symm)]
  exact congrArg Rs.ok yII
theorem wfW : Tf.wf (.cons n0 (.cons n1 (.cons n2 (.cons n3 .nil .nil) .nil) .nil) .nil) := by
  refine ⟨by decide, by decide, ⟨by decide, by decide, ⟨by decide, by decide, ⟨by decide, by decide, trivial, trivial⟩, trivial⟩, trivial⟩, trivial⟩
theorem chkW : chk termW = .ok tII := by
  have h1 : shq 1024 termW 0 = .ok ([], 4) := shq_of 1024 n0 (.cons n1 (.cons n2 (.cons n3 .nil .nil) .nil) .nil) [] 0 wfW (by decide)
  have h2 : treeN termW = (n0, .cons n1 (.cons n2 (.cons n3 .nil .nil) .nil) .nil) := treeN_eq wfW
  rw [chk_short (by decide), h1, Rs.then_ok, if_pos (by decide), h2]
  exact y0
theorem laidW : laidL termW = [n0, n1] := rfl
theorem chkPW : chkP termW ⟨#[62, 105, 105]⟩ 2 = (0, [n0, n1]) := by
  unfold chkP
  rw [chkW]
  simp only
  rw [if_neg (by simp [sII]), laidW, if_neg]
  rintro ⟨c, hc, h⟩
  simp at hc
  rcases hc with rfl | rfl <;> simp [n0, n1] at h
theorem blW : blL [n0, n1] = [-1] := by
  have p0 : plusC n0 = true := by unfold plusC; rw [show n0.t = ⟨#[62, 63, 105]⟩ from rfl, show n0.u = ⟨#[62, 105, 105]⟩ from rfl, yQI, yII]; decide
  have p1 : plusC n1 = true := by unfold plusC; rw [show n1.u = ⟨#[62, 63, 105]⟩ from rfl, show n1.t = ⟨#[62, 105, 105]⟩ from rfl, yQI, yII]; decide
  have m0 : minusC n0 = true := by unfold minusC; rw [show n0.t = ⟨#[62, 63, 105]⟩ from rfl, show n0.u = ⟨#[62, 105, 105]⟩ from rfl, yQI, yII]; decide
  have m1 : minusC n1 = false := by unfold minusC; rw [show n1.u = ⟨#[62, 63, 105]⟩ from rfl, show n1.t = ⟨#[62, 105, 105]⟩ from rfl, yQI, yII]; decide
  simp [blL, blC, p0, p1, m0, m1]
  rfl
def siteA : Site := ⟨⟨#[109, 97, 105, 110]⟩, ⟨#[]⟩, 0, 0, 4⟩
def siteB : Site := ⟨⟨#[109, 97, 105, 110]⟩, ⟨#[108, 105, 98]⟩, 0, 0, 18⟩
theorem modsW {ms : List ByteArray} (h : ModsIn [siteA, siteB] (blL [n0, n1]) ms) : ms = [⟨#[109, 97, 105, 110]⟩] := by
  obtain ⟨hp, hm⟩ := h
  rw [blW] at hm
  have hn : [(-1 : Int)].map (nameB [siteA, siteB]) = [⟨#[109, 97, 105, 110]⟩] := by
    simp [nameB, sideL, sideI, siteA, siteB, nameOf]
  rw [hn] at hm
  match ms, hp, hm with
  | [], _, hm => exact absurd ((hm ⟨#[109, 97, 105, 110]⟩).2 (by simp)) (by simp)
  | [a], _, hm => rw [List.mem_singleton.1 ((hm a).1 (by simp))]
  | a :: b :: r, hp, hm =>
    have ha := List.mem_singleton.1 ((hm a).1 (by simp))
    have hb := List.mem_singleton.1 ((hm b).1 (by simp))
    have := (List.pairwise_cons.1 hp).1 b (by simp)
    rw [ha, hb, less_irrefl] at this
    cases this

theorem sl_blk {w : World} {b sz n : Nat} {t : TypeId} {xs : List Value} (h : Blk w b t xs.toArray) (hx : xs.length = n * sz) : Sl w w.heap.size sz (some ⟨b, 0, none⟩) n xs :=
  ⟨hx, .inr ⟨b, 0, rfl, h.lt, fun j u hu => by rw [Nat.zero_add]; rw [h.cell j]; simpa using hu⟩⟩
/-- What the walk asks of Sides and Modules at that program. -/
theorem sidesW (a b c d : Nat) (w : World) (hA : Sl w w.heap.size 8 (some ⟨a, 0, none⟩) 4 (tns termW)) :
    Calls Tryz.prog 8 #[.agg #[.slice (some ⟨a, 0, none⟩) 4 4, .string ⟨#[62, 105, 105]⟩, .slice (some ⟨b, 0, none⟩) 2 2]] w fun e w' => Below w.heap.size w w' ∧ ∃ v, e = .returned (.tuple #[v, .int .i64 0]) ∧ w'.ownsRow w.heap.size 47 2 v 2 [.bool false, .bool true, .bool false, .bool false] := by
  have h := SidesJ_any termW (some ⟨a, 0, none⟩) 4 ⟨#[62, 105, 105]⟩ (some ⟨b, 0, none⟩) 2 2 w (by decide) (by omega) (by decide) (by intro x hx; simp [termW] at hx; rcases hx with rfl | rfl | rfl | rfl <;> exact ⟨by decide, by decide, by decide⟩) (lt_sl hA)
  rw [chkPW] at h
  unfold SidesQ at h
  simp only [if_true, blW] at h
  exact h
theorem modulesW (a b c d : Nat) (w : World) (hA : Sl w w.heap.size 8 (some ⟨a, 0, none⟩) 4 (tns termW)) (hB : Sl w w.heap.size 5 (some ⟨b, 0, none⟩) 2 (cells [siteA, siteB])) :
    Calls Tryz.prog 10 #[.agg #[.slice (some ⟨a, 0, none⟩) 4 4, .string ⟨#[62, 105, 105]⟩, .slice (some ⟨b, 0, none⟩) 2 2]] w fun e w' => Below w.heap.size w w' ∧ ∃ v, e = .returned (.tuple #[v, .int .i64 0]) ∧ w'.ownsRow w.heap.size 9 1 v 1 [.string ⟨#[109, 97, 105, 110]⟩] := by
  have h := ModsJ_any termW (some ⟨a, 0, none⟩) 4 ⟨#[62, 105, 105]⟩ (some ⟨b, 0, none⟩) [siteA, siteB] 2 w (by decide) (by decide) (by decide) (by intro x hx; simp [termW] at hx; rcases hx with rfl | rfl | rfl | rfl <;> exact ⟨by decide, by decide, by decide⟩) (lt_sl hA) hB
    (by intro s hs; simp at hs; rcases hs with rfl | rfl <;> exact ⟨by decide, by decide⟩)
  rw [show [siteA, siteB].length = 2 from rfl, chkPW] at h
  refine h.mono ?_
  rintro e w' ⟨hb, hq⟩
  rw [if_pos rfl] at hq
  obtain ⟨v, ms, rfl, ho, hm⟩ := hq
  rw [modsW hm] at ho
  exact ⟨hb, v, rfl, ho⟩

set_option maxRecDepth 100000 in
set_option maxHeartbeats 2000000 in
theorem works_any (w : World) : Calls Tryz.prog 5 #[] w fun e w' => e = .returned (.bool true) ∧ Below w.heap.size w w' := by
  go_enter Tryz.func5, Tryz.ntmps5
  go_wp2_with fail
  obtain ⟨W, hW⟩ : ∃ W, ((w.alloc (.cells (tns termW).toArray 60)).alloc (.cells (cells [siteA, siteB]).toArray 62)).alloc (.cells #[.slice (some ⟨w.heap.size, 0, none⟩) 4 4, .string ⟨#[62, 105, 105]⟩, .slice (some ⟨w.heap.size + 1, 0, none⟩) 2 2] 25) = W := ⟨_, rfl⟩
  have k0 : Blk W w.heap.size 60 (tns termW).toArray := by rw [← hW]; exact ((Blk.new w _ _).alloc _).alloc _
  have k1 : Blk W (w.heap.size + 1) 62 (cells [siteA, siteB]).toArray := by rw [← hW]; have := Blk.new (w.alloc (.cells (tns termW).toArray 60)) 62 (cells [siteA, siteB]).toArray; simpa only [World.size_alloc] using Blk.alloc this (.cells #[.slice (some ⟨w.heap.size, 0, none⟩) 4 4, .string ⟨#[62, 105, 105]⟩, .slice (some ⟨w.heap.size + 1, 0, none⟩) 2 2] 25)
  have k2 : Blk W (w.heap.size + 2) 25 #[.slice (some ⟨w.heap.size, 0, none⟩) 4 4, .string ⟨#[62, 105, 105]⟩, .slice (some ⟨w.heap.size + 1, 0, none⟩) 2 2] := by rw [← hW]; have := Blk.new ((w.alloc (.cells (tns termW).toArray 60)).alloc (.cells (cells [siteA, siteB]).toArray 62)) 25 #[.slice (some ⟨w.heap.size, 0, none⟩) 4 4, .string ⟨#[62, 105, 105]⟩, .slice (some ⟨w.heap.size + 1, 0, none⟩) 2 2]; simpa only [World.size_alloc] using this
  have hbw : Below w.heap.size w W := by rw [← hW]; exact bal (bal (bal b0 _) _) _
  have hA : ∀ W', Below W.heap.size W W' → Sl W' W'.heap.size 8 (some ⟨w.heap.size, 0, none⟩) 4 (tns termW) := fun W' hb => sl_blk (k0.below hb k0.lt) rfl
  have hB : ∀ W', Below W.heap.size W W' → Sl W' W'.heap.size 5 (some ⟨w.heap.size + 1, 0, none⟩) 2 (cells [siteA, siteB]) := fun W' hb => sl_blk (k1.below hb k1.lt) rfl
  have hc1 := sidesW w.heap.size (w.heap.size + 1) 0 0 W (hA W (Below.refl _ _))
  change Calls _ _ _ (((w.alloc (.cells (tns termW).toArray 60)).alloc (.cells (cells [siteA, siteB]).toArray 62)).alloc (.cells #[.slice (some ⟨w.heap.size, 0, none⟩) 4 4, .string ⟨#[62, 105, 105]⟩, .slice (some ⟨w.heap.size + 1, 0, none⟩) 2 2] 25)) _
  rw [hW]
  have H1 := Lib.hid (And.intro k2 (And.intro hbw (And.intro hA hB)))
  clear hA hB k0 k1 k2 hbw hW
  obtain ⟨g, hg⟩ : ∃ g, w.heap.size = g := ⟨_, rfl⟩
  rw [hg] at hc1 H1 ⊢
  have HG := Lib.hid hg
  clear hg
  (refine hc1.mono ?_); rintro e w1 ⟨hb1, v, rfl, ho⟩
  obtain ⟨k2, hbw, hA, hB⟩ := H1.out
  have k21 := k2.below hb1 k2.lt
  have p0 : w1.cell? ⟨g + 1 + 1, 0, none⟩ = some (.slice (some ⟨g, 0, none⟩) 4 4) := (k21.cell 0).trans rfl
  have p1 : w1.cell? ⟨g + 1 + 1, 1, none⟩ = some (.string ⟨#[62, 105, 105]⟩) := (k21.cell 1).trans rfl
  have p2 : w1.cell? ⟨g + 1 + 1, 2, none⟩ = some (.slice (some ⟨g + 1, 0, none⟩) 2 2) := (k21.cell 2).trans rfl
  have hc2 := modulesW g (g + 1) 0 0 w1 (hA w1 hb1) (hB w1 hb1)
  obtain ⟨gs, cs, hv, hgs, hgl⟩ := ho.form (by omega)
  subst hv
  have H2 := Lib.hid (And.intro hb1 (And.intro hbw ho))
  clear hA hB k2 k21 hb1 hbw ho hc1
  go_wp2_with fail
  (refine hc2.mono ?_); rintro e w2 ⟨hb2, v, rfl, ho2⟩
  obtain ⟨gm, cm, hv, hgm, hgml⟩ := ho2.form (by omega)
  subst hv
  obtain ⟨hb1, hbw, ho⟩ := H2.out
  have ho' := own_below ho hb2
  have q0 : w2.cell? ⟨gs, 0, none⟩ = some (.bool false) := by have := ho'.cells (g := gs) rfl 0 _ rfl; rwa [add_flat, Nat.zero_add] at this
  have q1 : w2.cell? ⟨gs, 1, none⟩ = some (.bool true) := by have := ho'.cells (g := gs) rfl 1 _ rfl; rwa [add_flat, Nat.zero_add] at this
  have q2 : w2.cell? ⟨gs, 2, none⟩ = some (.bool false) := by have := ho'.cells (g := gs) rfl 2 _ rfl; rwa [add_flat, Nat.zero_add] at this
  have q3 : w2.cell? ⟨gs, 3, none⟩ = some (.bool false) := by have := ho'.cells (g := gs) rfl 3 _ rfl; rwa [add_flat, Nat.zero_add] at this
  have q4 : w2.cell? ⟨gm, 0, none⟩ = some (.string ⟨#[109, 97, 105, 110]⟩) := by have := ho2.cells (g := gm) rfl 0 _ rfl; rwa [add_flat, Nat.zero_add] at this
  have HF := Lib.hid (bl (bl (show Below w.heap.size w W by rw [HG.out]; exact hbw) hb1) hb2)
  clear ho ho' ho2 hb1 hb2 hbw hc2 p0 p1 p2
  go_wp2_with fail
  go_ret
  exact ⟨rfl, HF.out⟩
end Go.Proofs.YtmagljnlfponaaaGreat.J

/- JuJ -/
namespace Go.Proofs.YtmagljnlfponaaaGreat.J
open Go.RowKit Go.Proofs.YtmagljnlfponaaaGreat.B Go.Proofs.YtmagljnlfponaaaGreat.T Go.Proofs.YtmagljnlfponaaaGreat.K Go.Proofs.YtmagljnlfponaaaGreat.La
set_option linter.unusedVariables false
set_option linter.unusedSimpArgs false

set_option maxRecDepth 100000 in
theorem sizedJ (l : List Site) (A : Option Addr) (c : Nat) (w : World) (hl : l.length ≤ 16384) (hok : ∀ s ∈ l, s.mo.size ≤ 140737488351232 ∧ s.ex.size ≤ 140737488351232) (hA : Sl w w.heap.size 5 A l.length (cells l)) :
    Calls Tryz.prog 21 #[.slice A l.length c] w fun e w' => (∃ v, e = .returned (.bool v)) ∧ Below w.heap.size w w' := by
  have HA := Lib.hid hA
  have HO := Lib.hid hok
  clear hA hok
  go_enter Tryz.func21, Tryz.ntmps21
  go_wp2
  go_loopw [3, 4] (fun n i wr => ∃ (k N : Nat), k ≤ l.length ∧ i = .int .i64 k ∧ n = .int .i64 N ∧ N ≤ 4194304 ∧ ∃ m, wr = w.drewN m) (fun _ i _ => l.length - (intOf i).toNat)
  case atStart => exact ⟨0, 0, Nat.zero_le _, rfl, rfl, by omega, 0, rfl⟩
  case round =>
    obtain ⟨k, N, hk, rfl, rfl, hN, m, rfl⟩ := hrel
    by_cases hlt : k < l.length
    · obtain ⟨s, hs⟩ : ∃ s, l[k]? = some s := ⟨_, List.getElem?_eq_getElem hlt⟩
      obtain ⟨b, o, rfl, hb, c0, c1, _⟩ := site_cells HA.out hs
      obtain ⟨b0, b1⟩ := HO.out s (List.mem_of_getElem? hs)
      by_cases hbig : N + s.mo.size + s.ex.size ≤ 4194304
      · go_wp2
        go_quiet (fail)
        go_wp2
        go_roundw
        case rel => exact ⟨k + 1, N + s.mo.size + s.ex.size, by omega, by go_num, by go_num, hbig, m + nq, rfl⟩
        case measure => simp [intOf]; omega
      · go_wp2
        go_quiet (fail)
        go_wp2
        go_ret
        exact ⟨⟨_, rfl⟩, below_drewN (Below.refl _ _) _⟩
    · obtain rfl : k = l.length := by omega
      go_wp2
      go_ret
      exact ⟨⟨_, rfl⟩, below_drewN (Below.refl _ _) _⟩
theorem longJ (n : Int) (w : World) : Calls Tryz.prog 19 #[.int .i64 n] w fun e w' => e = .returned (.bool (decide (2147483647 < n))) ∧ w = w' := by
  go_enter Tryz.func19, Tryz.ntmps19
  go_wp2
  go_ret
  exact ⟨rfl, rfl⟩

/-- What much answers. -/
def MuchJ (n m : Nat) (w : World) (e : Ending) (w' : World) : Prop := (∃ v, e = .returned (.bool v) ∧ (v = false → n ≤ 32768 ∧ m ≤ 16384)) ∧ Below w.heap.size w w'
set_option maxRecDepth 100000 in
theorem muchJ (L : List Tn) (A : Option Addr) (c : Nat) (T : ByteArray) (l : List Site) (B : Option Addr) (d : Nat) (w : World) (hL : L.length ≤ 9223372036854775807) (hl : l.length ≤ 9223372036854775807) (hS : ∀ x ∈ L, x.small) (hok : ∀ s ∈ l, s.mo.size ≤ 140737488351232 ∧ s.ex.size ≤ 140737488351232)
    (hA : LT w w.heap.size A L) (hB : Sl w w.heap.size 5 B l.length (cells l)) :
    Calls Tryz.prog 4 #[.agg #[.slice A L.length c, .string T, .slice B l.length d]] w fun e w' => MuchJ L.length l.length w e w' := by
  have hsz := fun W (hb : Below w.heap.size w W) (h : L.length ≤ 32768) => sizeNodes_w L A c W (by omega) hS ((hA.below hb).fresh (Nat.le_refl _))
  have hsd := fun W (hb : Below w.heap.size w W) (h : l.length ≤ 16384) => sizedJ l B d W h hok ((hB.below hb).more hb.size)
  have H := Lib.hid (And.intro hsz hsd)
  generalize L.length = N at *
  generalize l.length = M at *
  clear hsz hsd hA hB hok hS
  by_cases h1 : 32768 < N
  · go_enter Tryz.func4, Tryz.ntmps4
    go_wp2_with fail
    go_ret
    exact ⟨⟨true, rfl, by simp⟩, bal b0 _⟩
  by_cases h2 : 16384 < M
  · go_enter Tryz.func4, Tryz.ntmps4
    go_wp2_with fail
    go_ret
    exact ⟨⟨true, rfl, by simp⟩, bal b0 _⟩
  have e1 : decide ((32768 : Int) < (N : Int)) = false := by simp; omega
  have e2 : decide ((16384 : Int) < (M : Int)) = false := by simp; omega
  have HH := Lib.hid (And.intro h1 h2)
  clear h1 h2
  go_enter Tryz.func4, Tryz.ntmps4
  go_wp2_with fail
  obtain ⟨W, hW⟩ : ∃ W, w.alloc (.cells #[.slice A N c, .string T, .slice B M d] 25) = W := ⟨_, rfl⟩
  have hbk : Blk W w.heap.size 25 #[.slice A N c, .string T, .slice B M d] := by rw [← hW]; exact Blk.new _ _ _
  have hbw : Below w.heap.size w W := by rw [← hW]; exact bal b0 _
  rw [hW]
  clear hW
  have hc1 := H.out.1 W hbw (by have := HH.out.1; omega)
  have HB := Lib.hid (And.intro hbk hbw)
  clear hbk hbw
  (refine hc1.mono ?_); rintro e w1 ⟨v, rfl, hb1⟩
  obtain ⟨hbk, hbw⟩ := HB.out
  have hk1 := hbk.below hb1 hbk.lt
  have k2 : w1.cell? ⟨w.heap.size, 2, none⟩ = some (.slice B M d) := (hk1.cell 2).trans rfl
  have H1 := Lib.hid (bl hbw hb1)
  clear hbk hbw hk1 hb1 hc1
  go_wp2_with fail
  (refine (longJ v _).mono ?_); rintro e w2 ⟨rfl, rfl⟩
  obtain ⟨q, hq⟩ : ∃ q, decide (2147483647 < v) = q := ⟨_, rfl⟩
  rw [hq]
  clear hq
  cases q
  · have hc2 := H.out.2 w1 H1.out (by have := HH.out.2; omega)
    go_wp2_with fail
    (refine hc2.mono ?_); rintro e w2 ⟨⟨q, rfl⟩, hb2⟩
    have H2 := Lib.hid (bl H1.out hb2)
    clear hb2 hc2
    go_wp2_with fail
    go_ret
    exact ⟨⟨_, rfl, fun _ => by have := HH.out; omega⟩, H2.out⟩
  · go_wp2_with fail
    go_ret
    exact ⟨⟨_, rfl, by simp⟩, H1.out⟩
end Go.Proofs.YtmagljnlfponaaaGreat.J
