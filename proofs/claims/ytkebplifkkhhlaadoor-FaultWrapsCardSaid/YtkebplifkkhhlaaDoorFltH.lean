/- Contracts: the answer's Text; EqSites of two equal lists; shows. -/
import Derived.Test.YtkebplifkkhhlaaDoorFltG
namespace Go.Proofs.YtkebplifkkhhlaaDoor.F
open Go.RowKit Go.Proofs.YtkebplifkkhhlaaDoor.B Go.Proofs.YtkebplifkkhhlaaDoor.La
set_option linter.unusedVariables false
set_option linter.unusedSimpArgs false

theorem eqSites_any (l : List Site) (A A' : Option Addr) (c c' : Nat) (w : World) (hl : l.length ≤ 4611686018427387904) (hA : Sl w w.heap.size 5 A l.length (cells l)) (hA' : Sl w w.heap.size 5 A' l.length (cells l)) :
    Calls Tryd.prog 15 #[.slice A l.length c, .slice A' l.length c'] w fun e w' => e = .returned (.bool true) ∧ Below w.heap.size w w' := by
  go_enter Tryd.func15, Tryd.ntmps15
  go_wp2_with fail
  go_loopg [5] l.length (fun g i wr => ∃ k : Nat, k ≤ l.length ∧ g = l.length - k ∧ i = .int .i64 k ∧ ∃ m, wr = w.drewN m)
  case atStart => exact ⟨0, by omega, rfl, rfl, 0, rfl⟩
  case round =>
    obtain ⟨k, hk, rfl, rfl, m, rfl⟩ := hrel
    by_cases h1 : k < l.length
    · obtain ⟨s, hs⟩ : ∃ s, l[k]? = some s := ⟨_, List.getElem?_eq_getElem h1⟩
      obtain ⟨bb, o, rfl, hbb, c0, c1, c2, c3, c4⟩ := site_cells hA hs
      obtain ⟨bb', o', rfl, hbb', d0, d1, d2, d3, d4⟩ := site_cells hA' hs
      go_wp2_with fail
      go_quiet (fail)
      go_wp2_with fail
      go_roundg (l.length - (k + 1))
      case measure => omega
      case rel => exact ⟨k + 1, by omega, rfl, by go_num, m + nq, rfl⟩
    · go_wp2_with fail
      go_ret
      exact ⟨rfl, below_drewN (Below.refl _ _) _⟩

theorem refText_code (c : Int) (w : World) (ht : Tab w) (h0 : -9223372036854775808 ≤ c) (h1 : c ≤ 9223372036854775807) :
    Calls Tryd.prog 20 #[wnV (.code c)] w fun e w' => e = .returned (.string (faultT c)) ∧ Below w.heap.size w w' := by
  have hb : Below w.heap.size w (w.alloc (.cells (wnC (.code c)).toArray 39)) := bal (Below.refl _ _) _
  have hit := fun (W : World) (hb : Below w.heap.size w W) => itoa_any c W h0 h1 (ht.below hb)
  have hs := itoaS_size c h0 h1
  have HB := Lib.hid hb
  clear hb
  unfold faultT
  unfold wnV
  simp only [wnC] at *
  go_enter Tryd.func20, Tryd.ntmps20
  go_wp2_with fail
  (refine (hit _ HB.out).mono ?_); rintro ev w1 ⟨rfl, hb⟩
  go_wp2_with fail
  go_ret
  exact ⟨rfl, bl HB.out hb⟩

set_option maxRecDepth 100000 in
theorem refText_blame (n : Int) (s : Site) (nm : ByteArray) (w : World) (ht : Tab w) (hn0 : n ≠ 0) (h0 : -9223372036854775808 ≤ n) (h1 : n ≤ 9223372036854775807) (hn : nm.size ≤ 140737488351232) :
    Calls Tryd.prog 20 #[wnV (.blame n s nm)] w fun e w' => e = .returned (.string (blameT n nm)) ∧ Below w.heap.size w w' := by
  obtain ⟨W, hW⟩ : ∃ W, w.alloc (.cells (wnC (.blame n s nm)).toArray 39) = W := ⟨_, rfl⟩
  have hbW : Below w.heap.size w W := by rw [← hW]; exact bal (Below.refl _ _) _
  have hblk : Blk W w.heap.size 39 (wnC (.blame n s nm)).toArray := by rw [← hW]; exact Blk.new _ _ _
  have c0 := hblk.cell 0
  have c6 := hblk.cell 6
  simp only [wnC, List.getElem?_toArray, List.getElem?_cons_zero, List.getElem?_cons_succ] at c0 c6
  have HF : Hid (∀ W', Below W.heap.size W W' → W'.cell? ⟨w.heap.size, 0, none⟩ = some (.int .i64 n) ∧ W'.cell? ⟨w.heap.size, 6, none⟩ = some (.string nm)) :=
    Lib.hid fun W' hb => ⟨(hb.cell (p := ⟨w.heap.size, 0, none⟩) hblk.lt).trans c0, (hb.cell (p := ⟨w.heap.size, 6, none⟩) hblk.lt).trans c6⟩
  have hfm := fun (W' : World) (hb : Below W.heap.size W W') => fmt_any n W' h0 h1 (ht.below (bl hbW hb))
  have hs := itoaS_size n h0 h1
  have HB := Lib.hid hbW
  have hn2 : (n != 0) = true := by simpa using hn0
  unfold blameT
  unfold wnV
  clear hblk hbW hn0
  simp only [wnC] at *
  go_enter Tryd.func20, Tryd.ntmps20
  go_wp2_with fail
  try rw [hW]
  go_region_with (go_at_call 61; refine (hfm _ (by first | exact Below.refl _ _ | exact (Below.refl _ _).drew)).mono ?_; rintro e w1 ⟨rfl, hb0⟩; have hb1 : Below W.heap.size W w1 := (by first | exact hb0 | exact Below.trans (Below.refl _ _).drew hb0); obtain ⟨f1, f2⟩ := HF.out w1 hb1)
  all_goals
    go_wp2_with fail
    go_ret
    exact ⟨rfl, by first | exact bl HB.out hb1 | exact bl HB.out hb1.drew⟩
end Go.Proofs.YtkebplifkkhhlaaDoor.F
