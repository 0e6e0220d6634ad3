/- Contract: the law's 'shows' (printed by gen_fltj.py). -/
import Derived.Test.YtkebplifkkhhlaaDoorFltH
import Derived.Deep.RegionHeld3
import Derived.Deep.DeepCutAuto
namespace Go.Proofs.YtkebplifkkhhlaaDoor.F
open Go.RowKit Go.Proofs.YtkebplifkkhhlaaDoor.B Go.Proofs.YtkebplifkkhhlaaDoor.La
set_option linter.unusedVariables false
set_option linter.unusedSimpArgs false

/-- What stays told of a want's box and of a blame's. -/
def WB (g a : Nat) (n : Int) (s : Site) (nm : ByteArray) (W : World) : Prop :=
  W.cell? ⟨g, 0, none⟩ = some (.int .i64 n) ∧ W.cell? ⟨g, 1, none⟩ = some (.string s.mo) ∧ W.cell? ⟨g, 2, none⟩ = some (.string s.ex) ∧ W.cell? ⟨g, 3, none⟩ = some (.int .i64 s.li) ∧ W.cell? ⟨g, 4, none⟩ = some (.int .i64 s.co) ∧ W.cell? ⟨g, 5, none⟩ = some (.int .i64 s.ru) ∧ W.cell? ⟨g, 6, none⟩ = some (.string nm) ∧
  W.cell? ⟨a, 0, none⟩ = some (.int .i64 n) ∧ W.cell? ⟨a, 1, none⟩ = some (.string s.mo) ∧ W.cell? ⟨a, 2, none⟩ = some (.string s.ex) ∧ W.cell? ⟨a, 3, none⟩ = some (.int .i64 s.li) ∧ W.cell? ⟨a, 4, none⟩ = some (.int .i64 s.co) ∧ W.cell? ⟨a, 5, none⟩ = some (.int .i64 s.ru) ∧ W.cell? ⟨a, 6, none⟩ = some (.string nm)

theorem but_cell {C : Nat → Prop} {w w' : World} (h : But C w w') {p : Addr} (hp : ¬ C p.block) {v : Value} (hc : w.cell? p = some v) : w'.cell? p = some v := by
  have hl : p.block < w.heap.size := cell_lt hc
  have := h.block p.block hl hp
  rw [← hc]; unfold World.cell?; rw [this]
theorem but_frozen {C : Nat → Prop} {w w' : World} (h : But C w w') {p : Addr} (hp : ¬ C p.block) (hl : p.block < w.heap.size) : w'.frozen? p = w.frozen? p := by
  have := h.block p.block hl hp
  unfold World.frozen?; rw [this]
theorem WB.but {C : Nat → Prop} {w w' : World} (h : But C w w') {g a : Nat} {n : Int} {s : Site} {nm : ByteArray} (hg : ¬ C g) (ha : ¬ C a) (k : WB g a n s nm w) : WB g a n s nm w' := by
  obtain ⟨k0, k1, k2, k3, k4, k5, k6, k7, k8, k9, k10, k11, k12, k13⟩ := k
  exact ⟨but_cell h hg k0, but_cell h hg k1, but_cell h hg k2, but_cell h hg k3, but_cell h hg k4, but_cell h hg k5, but_cell h hg k6, but_cell h ha k7, but_cell h ha k8, but_cell h ha k9, but_cell h ha k10, but_cell h ha k11, but_cell h ha k12, but_cell h ha k13⟩
theorem at_but {C : Nat → Prop} {w w' : World} (h : But C w w') {a : Nat} {n : Int} {s : Site} {nm : ByteArray} (ha : ¬ C a) (k : (Er.bl a n s nm).At w) : (Er.bl a n s nm).At w' := by
  have hk : Blk w a 128 #[.int .i64 n, .string s.mo, .string s.ex, .int .i64 s.li, .int .i64 s.co, .int .i64 s.ru, .string nm] := k
  exact (h.block a hk.lt ha).trans hk


set_option maxRecDepth 100000 in
set_option maxHeartbeats 4000000 in
theorem shows_blame (a : Nat) (n : Int) (s : Site) (nm : ByteArray) (w : World) (hg : Han w) (hat : (Er.bl a n s nm).At w) (hn0 : n ≠ 0) :
    Calls Tryd.prog 21 #[(Er.bl a n s nm).val, wnV (.blame n s nm)] w fun ev w' => ev = .returned (.bool true) ∧ Below w.heap.size w w' := by
  obtain ⟨W, hW⟩ : ∃ W, ((w.alloc (.cells (wnC (.blame n s nm)).toArray 39)).alloc (.cells #[.pointer none] 86)).alloc (.cells #[.pointer none] 87) = W := ⟨_, rfl⟩
  have hbW : Below w.heap.size w W := by rw [← hW]; exact bal (bal (bal (Below.refl _ _) _) _) _
  have hsz : W.heap.size = w.heap.size + 3 := by rw [← hW]; simp
  have hal : a < w.heap.size := Blk.lt hat
  have hat' : (Er.bl a n s nm).At W := Er.At.below hbW hat
  have hblk : Blk W w.heap.size 39 (wnC (.blame n s nm)).toArray := by rw [← hW]; exact ((Blk.new _ _ _).alloc _).alloc _
  have hblkb : Blk W (w.heap.size + 1) 86 #[.pointer none] := by rw [← hW]; have := (Blk.new (w.alloc (.cells (wnC (.blame n s nm)).toArray 39)) 86 #[.pointer none]).alloc (.cells #[.pointer none] 87); simpa using this
  have hblkf : Blk W (w.heap.size + 1 + 1) 87 #[.pointer none] := by rw [← hW]; have := (Blk.new ((w.alloc (.cells (wnC (.blame n s nm)).toArray 39)).alloc (.cells #[.pointer none] 86)) 87 #[.pointer none]); simpa using this
  have hwb : WB w.heap.size a n s nm W := by
    have hk : Blk W a 128 #[.int .i64 n, .string s.mo, .string s.ex, .int .i64 s.li, .int .i64 s.co, .int .i64 s.ru, .string nm] := hat'
    exact ⟨by rw [hblk.cell 0]; rfl, by rw [hblk.cell 1]; rfl, by rw [hblk.cell 2]; rfl, by rw [hblk.cell 3]; rfl, by rw [hblk.cell 4]; rfl, by rw [hblk.cell 5]; rfl, by rw [hblk.cell 6]; rfl, by rw [hk.cell 0]; rfl, by rw [hk.cell 1]; rfl, by rw [hk.cell 2]; rfl, by rw [hk.cell 3]; rfl, by rw [hk.cell 4]; rfl, by rw [hk.cell 5]; rfl, by rw [hk.cell 6]; rfl⟩
  have hb0 : W.cell? ⟨w.heap.size + 1, 0, none⟩ = some (.pointer none) := by rw [hblkb.cell 0]; rfl
  have hf0 : W.cell? ⟨w.heap.size + 1 + 1, 0, none⟩ = some (.pointer none) := by rw [hblkf.cell 0]; rfl
  have hbz : ∀ p : Addr, p.block = w.heap.size + 1 → W.frozen? p = false := fun p hp => by unfold World.frozen?; rw [hp, hblkb]; simp
  have hfz : ∀ p : Addr, p.block = w.heap.size + 1 + 1 → W.frozen? p = false := fun p hp => by unfold World.frozen?; rw [hp, hblkf]; simp
  have HZ := Lib.hid hfz
  have hgW := hg.below hbW
  -- the contracts, at whatever world they are called
  have hA : Hid (∀ W', Below W.heap.size W W' → Calls Tryd.prog 26 #[(Er.bl a n s nm).val, .iface 129 (.pointer (some ⟨w.heap.size + 1, 0, none⟩))] W' fun ev w' => ev = .returned (.bool true) ∧ WB w.heap.size a n s nm w' ∧ w'.cell? ⟨w.heap.size + 1, 0, none⟩ = some (ptr' a) ∧ But (· = w.heap.size + 1) W w') := Lib.hid fun W' hb => by
    refine (As_B (.bl a n s nm) (w.heap.size + 1) (.pointer none) W' (hgW.below hb) (Er.At.below hb hat') ((hb.cell (p := ⟨w.heap.size + 1, 0, none⟩) hblkb.lt).trans hb0) ((hb.frozen (p := ⟨w.heap.size + 1, 0, none⟩) hblkb.lt).trans (hbz _ rfl))).mono ?_
    rintro ev w' ⟨h1, h2, h3⟩
    have hbut : But (· = w.heap.size + 1) W w' := (But.of_below hb).trans h2 fun _ _ h => h
    exact ⟨h1, WB.but hbut (by omega) (by omega) hwb, h3, hbut⟩
  have hB : Hid (∀ w1 W', But (· = w.heap.size + 1) W w1 → w1.cell? ⟨w.heap.size + 1, 0, none⟩ = some (ptr' a) → Below w1.heap.size w1 W' → Calls Tryd.prog 26 #[(Er.bl a n s nm).val, .iface 133 (.pointer (some ⟨w.heap.size + 1 + 1, 0, none⟩))] W' fun ev w' => ev = .returned (.bool false) ∧ WB w.heap.size a n s nm w' ∧ w'.cell? ⟨w.heap.size + 1, 0, none⟩ = some (ptr' a) ∧ But (· = w.heap.size + 1) W w') := Lib.hid fun w1 W' hbut hc hb => by
    have hbut' : But (· = w.heap.size + 1) W W' := hbut.trans (But.of_below hb (C := (· = w.heap.size + 1))) fun _ _ h => h
    have e1 : ¬ (w.heap.size + 1 + 1 = w.heap.size + 1) := by omega
    refine (As_F (.bl a n s nm) (w.heap.size + 1 + 1) (.pointer none) W' ((hgW.below (Below.refl _ _)) |> fun h => but_cell hbut' (p := ⟨0, 0, none⟩) (by show ¬ 0 = w.heap.size + 1; omega) h) (at_but hbut' (by omega) hat') (but_cell hbut' (p := ⟨w.heap.size + 1 + 1, 0, none⟩) e1 hf0) ((but_frozen hbut' (p := ⟨w.heap.size + 1 + 1, 0, none⟩) e1 hblkf.lt).trans (HZ.out _ rfl))).mono ?_
    rintro ev w' ⟨h1, h2⟩
    have hbut2 : But (· = w.heap.size + 1) W w' := hbut'.trans (But.of_below h2 (C := (· = w.heap.size + 1))) fun _ _ h => h
    have hl1 : (⟨w.heap.size + 1, 0, none⟩ : Addr).block < w1.heap.size := cell_lt hc
    exact ⟨h1, WB.but hbut2 (by omega) (by omega) hwb, (bl hb h2).cell hl1 |>.trans hc, hbut2⟩
  have hu := fun W' => unB_some a W'
  have hk := fun W' => kod_any (.er 33) W'
  have hn2 : (n != 0) = true := by simpa using hn0
  have HBW := Lib.hid hbW
  have HWB := Lib.hid hwb
  simp only [Er.val, ptr', Er.kod] at hA hB hu hk ⊢
  clear hat hat' hblk hblkb hblkf hb0 hf0 hbz hfz hgW hbW hn0 hwb hsz hg
  unfold wnV
  simp only [wnC] at hW ⊢
  have q0 := HWB.out.1
  go_enter Tryd.func21, Tryd.ntmps21
  go_upto_region 4 with fail
  try rw [hW]
  refine wp_region_any (by kernel_rfl) ?_
  try (change wpAny _ _ _ _ _ _ _ (World.drew _))
  refine wpAny_take (i := 0) (oi := ⟨some 10, _, _, _, _, _⟩) (v := ?vv1) rfl (by kernel_rfl) (by kernel_rfl) (by kernel_rfl) (fun _ _ _ h => h) (Or.inl ⟨by rfl, ?yy1⟩) ?rr1
  case yy1 => (intro wq; go_simp; try with_reducible rfl)
  try simp only [Act.put, List.setIfInBounds_toArray, List.set_cons_zero, List.set_cons_succ]
  refine wpAny_take (i := 1) (oi := ⟨some 11, _, _, _, _, _⟩) (v := ?vv2) rfl (by kernel_rfl) (by kernel_rfl) (by kernel_rfl) (fun _ _ _ h => h) (Or.inl ⟨by rfl, ?yy2⟩) ?rr2
  case yy2 => (intro wq; go_simp; try with_reducible rfl)
  try simp only [Act.put, List.setIfInBounds_toArray, List.set_cons_zero, List.set_cons_succ]
  refine wpAny_ready (rs := [2]) (by kernel_rfl) (by simp) ?_
  refine AllReady.cons rfl (fun K hK => ?_) AllReady.nil
  go_simp
  ((refine (hA.out _ (Below.refl _ _).drew).mono ?_); rintro ev w1 ⟨rfl, hw1, hc1, hbut1⟩)
  refine hK _ _ ?_
  clear hK K
  try simp only [Act.put, List.setIfInBounds_toArray, List.set_cons_zero, List.set_cons_succ]
  refine wpAny_of_held (S := (fun W' => W'.cell? ⟨w.heap.size, 0, none⟩ = some (.int .i64 n) ∧ W'.cell? ⟨w.heap.size, 1, none⟩ = some (.string s.mo) ∧ W'.cell? ⟨w.heap.size, 2, none⟩ = some (.string s.ex) ∧ W'.cell? ⟨w.heap.size, 3, none⟩ = some (.int .i64 s.li) ∧ W'.cell? ⟨w.heap.size, 4, none⟩ = some (.int .i64 s.co) ∧ W'.cell? ⟨w.heap.size, 5, none⟩ = some (.int .i64 s.ru) ∧ W'.cell? ⟨w.heap.size, 6, none⟩ = some (.string nm) ∧ W'.cell? ⟨a, 0, none⟩ = some (.int .i64 n) ∧ W'.cell? ⟨a, 1, none⟩ = some (.string s.mo) ∧ W'.cell? ⟨a, 2, none⟩ = some (.string s.ex) ∧ W'.cell? ⟨a, 3, none⟩ = some (.int .i64 s.li) ∧ W'.cell? ⟨a, 4, none⟩ = some (.int .i64 s.co) ∧ W'.cell? ⟨a, 5, none⟩ = some (.int .i64 s.ru) ∧ W'.cell? ⟨a, 6, none⟩ = some (.string nm) ∧ W'.cell? ⟨w.heap.size + 1, 0, none⟩ = some (.pointer (some ⟨a, 0, none⟩)))) _ _ _ _ ?_
  have hHeld : (fun W' => W'.cell? ⟨w.heap.size, 0, none⟩ = some (.int .i64 n) ∧ W'.cell? ⟨w.heap.size, 1, none⟩ = some (.string s.mo) ∧ W'.cell? ⟨w.heap.size, 2, none⟩ = some (.string s.ex) ∧ W'.cell? ⟨w.heap.size, 3, none⟩ = some (.int .i64 s.li) ∧ W'.cell? ⟨w.heap.size, 4, none⟩ = some (.int .i64 s.co) ∧ W'.cell? ⟨w.heap.size, 5, none⟩ = some (.int .i64 s.ru) ∧ W'.cell? ⟨w.heap.size, 6, none⟩ = some (.string nm) ∧ W'.cell? ⟨a, 0, none⟩ = some (.int .i64 n) ∧ W'.cell? ⟨a, 1, none⟩ = some (.string s.mo) ∧ W'.cell? ⟨a, 2, none⟩ = some (.string s.ex) ∧ W'.cell? ⟨a, 3, none⟩ = some (.int .i64 s.li) ∧ W'.cell? ⟨a, 4, none⟩ = some (.int .i64 s.co) ∧ W'.cell? ⟨a, 5, none⟩ = some (.int .i64 s.ru) ∧ W'.cell? ⟨a, 6, none⟩ = some (.string nm) ∧ W'.cell? ⟨w.heap.size + 1, 0, none⟩ = some (.pointer (some ⟨a, 0, none⟩))) w1 := by (obtain ⟨x0, x1, x2, x3, x4, x5, x6, y0, y1, y2, y3, y4, y5, y6⟩ := hw1; exact ⟨x0, x1, x2, x3, x4, x5, x6, y0, y1, y2, y3, y4, y5, y6, hc1⟩)
  clear hA
  refine wpAnyH_take (i := 3) (oi := ⟨some 13, _, _, _, _, _⟩) (v := ?vv4) rfl (by kernel_rfl) (by kernel_rfl) (by kernel_rfl) (fun _ _ _ h => h) (Or.inl ⟨by rfl, ?yy4⟩) (by assumption) ?rr4
  case yy4 => (intro wq hSw; (try dsimp only at hSw); go_simp; try with_reducible rfl)
  try simp only [Act.put, List.setIfInBounds_toArray, List.set_cons_zero, List.set_cons_succ]
  refine wpAnyH_take (i := 4) (oi := ⟨some 14, _, _, _, _, _⟩) (v := ?vv5) rfl (by kernel_rfl) (by kernel_rfl) (by kernel_rfl) (fun _ _ _ h => h) (Or.inl ⟨by rfl, ?yy5⟩) (by assumption) ?rr5
  case yy5 => (intro wq hSw; (try dsimp only at hSw); go_simp; try with_reducible rfl)
  try simp only [Act.put, List.setIfInBounds_toArray, List.set_cons_zero, List.set_cons_succ]
  refine wpAnyH_take (i := 5) (oi := ⟨some 15, _, _, _, _, _⟩) (v := ?vv6) rfl (by kernel_rfl) (by kernel_rfl) (by kernel_rfl) (fun _ _ _ h => h) (Or.inl ⟨by rfl, ?yy6⟩) (by assumption) ?rr6
  case yy6 => (intro wq hSw; (try dsimp only at hSw); go_simp; try with_reducible rfl)
  try simp only [Act.put, List.setIfInBounds_toArray, List.set_cons_zero, List.set_cons_succ]
  refine wpAnyH_take (i := 6) (oi := ⟨some 16, _, _, _, _, _⟩) (v := ?vv7) rfl (by kernel_rfl) (by kernel_rfl) (by kernel_rfl) (fun _ _ _ h => h) (Or.inl ⟨by rfl, ?yy7⟩) (by assumption) ?rr7
  case yy7 => (intro wq hSw; (try dsimp only at hSw); go_simp; try with_reducible rfl)
  try simp only [Act.put, List.setIfInBounds_toArray, List.set_cons_zero, List.set_cons_succ]
  refine wpAnyH_take (i := 7) (oi := ⟨some 17, _, _, _, _, _⟩) (v := ?vv8) rfl (by kernel_rfl) (by kernel_rfl) (by kernel_rfl) (fun _ _ _ h => h) (Or.inl ⟨by rfl, ?yy8⟩) (by assumption) ?rr8
  case yy8 => (intro wq hSw; (try dsimp only at hSw); go_simp; try with_reducible rfl)
  try simp only [Act.put, List.setIfInBounds_toArray, List.set_cons_zero, List.set_cons_succ]
  refine wpAnyH_take (i := 8) (oi := ⟨some 18, _, _, _, _, _⟩) (v := ?vv9) rfl (by kernel_rfl) (by kernel_rfl) (by kernel_rfl) (fun _ _ _ h => h) (Or.inl ⟨by rfl, ?yy9⟩) (by assumption) ?rr9
  case yy9 => (intro wq hSw; (try dsimp only at hSw); go_simp; try with_reducible rfl)
  try simp only [Act.put, List.setIfInBounds_toArray, List.set_cons_zero, List.set_cons_succ]
  refine wpAnyH_take (i := 9) (oi := ⟨some 19, _, _, _, _, _⟩) (v := ?vv10) rfl (by kernel_rfl) (by kernel_rfl) (by kernel_rfl) (fun _ _ _ h => h) (Or.inl ⟨by rfl, ?yy10⟩) (by assumption) ?rr10
  case yy10 => (intro wq hSw; (try dsimp only at hSw); go_simp; try with_reducible rfl)
  try simp only [Act.put, List.setIfInBounds_toArray, List.set_cons_zero, List.set_cons_succ]
  refine wpAnyH_take (i := 10) (oi := ⟨some 20, _, _, _, _, _⟩) (v := ?vv11) rfl (by kernel_rfl) (by kernel_rfl) (by kernel_rfl) (fun _ _ _ h => h) (Or.inl ⟨by rfl, ?yy11⟩) (by assumption) ?rr11
  case yy11 => (intro wq hSw; (try dsimp only at hSw); go_simp; try with_reducible rfl)
  try simp only [Act.put, List.setIfInBounds_toArray, List.set_cons_zero, List.set_cons_succ]
  refine wpAnyH_take (i := 11) (oi := ⟨some 21, _, _, _, _, _⟩) (v := ?vv12) rfl (by kernel_rfl) (by kernel_rfl) (by kernel_rfl) (fun _ _ _ h => h) (Or.inl ⟨by rfl, ?yy12⟩) (by assumption) ?rr12
  case yy12 => (intro wq hSw; (try dsimp only at hSw); go_simp; try with_reducible rfl)
  try simp only [Act.put, List.setIfInBounds_toArray, List.set_cons_zero, List.set_cons_succ]
  refine wpAnyH_take (i := 12) (oi := ⟨some 22, _, _, _, _, _⟩) (v := ?vv13) rfl (by kernel_rfl) (by kernel_rfl) (by kernel_rfl) (fun _ _ _ h => h) (Or.inl ⟨by rfl, ?yy13⟩) (by assumption) ?rr13
  case yy13 => (intro wq hSw; (try dsimp only at hSw); go_simp; try with_reducible rfl)
  try simp only [Act.put, List.setIfInBounds_toArray, List.set_cons_zero, List.set_cons_succ]
  refine wpAnyH_take (i := 13) (oi := ⟨some 23, _, _, _, _, _⟩) (v := ?vv14) rfl (by kernel_rfl) (by kernel_rfl) (by kernel_rfl) (fun _ _ _ h => h) (Or.inl ⟨by rfl, ?yy14⟩) (by assumption) ?rr14
  case yy14 => (intro wq hSw; (try dsimp only at hSw); go_simp; try with_reducible rfl)
  try simp only [Act.put, List.setIfInBounds_toArray, List.set_cons_zero, List.set_cons_succ]
  refine wpAnyH_take (i := 14) (oi := ⟨some 24, _, _, _, _, _⟩) (v := ?vv15) rfl (by kernel_rfl) (by kernel_rfl) (by kernel_rfl) (fun _ _ _ h => h) (Or.inl ⟨by rfl, ?yy15⟩) (by assumption) ?rr15
  case yy15 => (intro wq hSw; (try dsimp only at hSw); go_simp; try with_reducible rfl)
  try simp only [Act.put, List.setIfInBounds_toArray, List.set_cons_zero, List.set_cons_succ]
  refine wpAnyH_take (i := 15) (oi := ⟨some 25, _, _, _, _, _⟩) (v := ?vv16) rfl (by kernel_rfl) (by kernel_rfl) (by kernel_rfl) (fun _ _ _ h => h) (Or.inl ⟨by rfl, ?yy16⟩) (by assumption) ?rr16
  case yy16 => (intro wq hSw; (try dsimp only at hSw); go_simp; try with_reducible rfl)
  try simp only [Act.put, List.setIfInBounds_toArray, List.set_cons_zero, List.set_cons_succ]
  refine wpAnyH_take (i := 16) (oi := ⟨some 26, _, _, _, _, _⟩) (v := ?vv17) rfl (by kernel_rfl) (by kernel_rfl) (by kernel_rfl) (fun _ _ _ h => h) (Or.inl ⟨by rfl, ?yy17⟩) (by assumption) ?rr17
  case yy17 => (intro wq hSw; (try dsimp only at hSw); go_simp; try with_reducible rfl)
  try simp only [Act.put, List.setIfInBounds_toArray, List.set_cons_zero, List.set_cons_succ]
  refine wpAnyH_take (i := 17) (oi := ⟨some 27, _, _, _, _, _⟩) (v := ?vv18) rfl (by kernel_rfl) (by kernel_rfl) (by kernel_rfl) (fun _ _ _ h => h) (Or.inl ⟨by rfl, ?yy18⟩) (by assumption) ?rr18
  case yy18 => (intro wq hSw; (try dsimp only at hSw); go_simp; try with_reducible rfl)
  try simp only [Act.put, List.setIfInBounds_toArray, List.set_cons_zero, List.set_cons_succ]
  refine wpAnyH_take (i := 18) (oi := ⟨some 28, _, _, _, _, _⟩) (v := ?vv19) rfl (by kernel_rfl) (by kernel_rfl) (by kernel_rfl) (fun _ _ _ h => h) (Or.inl ⟨by rfl, ?yy19⟩) (by assumption) ?rr19
  case yy19 => (intro wq hSw; (try dsimp only at hSw); go_simp; try with_reducible rfl)
  try simp only [Act.put, List.setIfInBounds_toArray, List.set_cons_zero, List.set_cons_succ]
  refine wpAnyH_take (i := 19) (oi := ⟨some 29, _, _, _, _, _⟩) (v := ?vv20) rfl (by kernel_rfl) (by kernel_rfl) (by kernel_rfl) (fun _ _ _ h => h) (Or.inl ⟨by rfl, ?yy20⟩) (by assumption) ?rr20
  case yy20 => (intro wq hSw; (try dsimp only at hSw); go_simp; try with_reducible rfl)
  try simp only [Act.put, List.setIfInBounds_toArray, List.set_cons_zero, List.set_cons_succ]
  refine wpAnyH_take (i := 20) (oi := ⟨some 30, _, _, _, _, _⟩) (v := ?vv21) rfl (by kernel_rfl) (by kernel_rfl) (by kernel_rfl) (fun _ _ _ h => h) (Or.inl ⟨by rfl, ?yy21⟩) (by assumption) ?rr21
  case yy21 => (intro wq hSw; (try dsimp only at hSw); go_simp; try with_reducible rfl)
  try simp only [Act.put, List.setIfInBounds_toArray, List.set_cons_zero, List.set_cons_succ]
  refine wpAnyH_take (i := 21) (oi := ⟨some 31, _, _, _, _, _⟩) (v := ?vv22) rfl (by kernel_rfl) (by kernel_rfl) (by kernel_rfl) (fun _ _ _ h => h) (Or.inl ⟨by rfl, ?yy22⟩) (by assumption) ?rr22
  case yy22 => (intro wq hSw; (try dsimp only at hSw); go_simp; try with_reducible rfl)
  try simp only [Act.put, List.setIfInBounds_toArray, List.set_cons_zero, List.set_cons_succ]
  refine wpAnyH_take (i := 22) (oi := ⟨some 32, _, _, _, _, _⟩) (v := ?vv23) rfl (by kernel_rfl) (by kernel_rfl) (by kernel_rfl) (fun _ _ _ h => h) (Or.inl ⟨by rfl, ?yy23⟩) (by assumption) ?rr23
  case yy23 => (intro wq hSw; (try dsimp only at hSw); go_simp; try with_reducible rfl)
  try simp only [Act.put, List.setIfInBounds_toArray, List.set_cons_zero, List.set_cons_succ]
  refine wpAnyH_take (i := 23) (oi := ⟨some 33, _, _, _, _, _⟩) (v := ?vv24) rfl (by kernel_rfl) (by kernel_rfl) (by kernel_rfl) (fun _ _ _ h => h) (Or.inl ⟨by rfl, ?yy24⟩) (by assumption) ?rr24
  case yy24 => (intro wq hSw; (try dsimp only at hSw); go_simp; try with_reducible rfl)
  try simp only [Act.put, List.setIfInBounds_toArray, List.set_cons_zero, List.set_cons_succ]
  refine wpAnyH_take (i := 24) (oi := ⟨some 34, _, _, _, _, _⟩) (v := ?vv25) rfl (by kernel_rfl) (by kernel_rfl) (by kernel_rfl) (fun _ _ _ h => h) (Or.inl ⟨by rfl, ?yy25⟩) (by assumption) ?rr25
  case yy25 => (intro wq hSw; (try dsimp only at hSw); go_simp; try with_reducible rfl)
  try simp only [Act.put, List.setIfInBounds_toArray, List.set_cons_zero, List.set_cons_succ]
  refine wpAnyH_take (i := 25) (oi := ⟨some 35, _, _, _, _, _⟩) (v := ?vv26) rfl (by kernel_rfl) (by kernel_rfl) (by kernel_rfl) (fun _ _ _ h => h) (Or.inl ⟨by rfl, ?yy26⟩) (by assumption) ?rr26
  case yy26 => (intro wq hSw; (try dsimp only at hSw); go_simp; try with_reducible rfl)
  try simp only [Act.put, List.setIfInBounds_toArray, List.set_cons_zero, List.set_cons_succ]
  refine wpAnyH_take (i := 26) (oi := ⟨some 36, _, _, _, _, _⟩) (v := ?vv27) rfl (by kernel_rfl) (by kernel_rfl) (by kernel_rfl) (fun _ _ _ h => h) (Or.inl ⟨by rfl, ?yy27⟩) (by assumption) ?rr27
  case yy27 => (intro wq hSw; (try dsimp only at hSw); go_simp; try with_reducible rfl)
  try simp only [Act.put, List.setIfInBounds_toArray, List.set_cons_zero, List.set_cons_succ]
  refine wpAnyH_take (i := 27) (oi := ⟨some 37, _, _, _, _, _⟩) (v := ?vv28) rfl (by kernel_rfl) (by kernel_rfl) (by kernel_rfl) (fun _ _ _ h => h) (Or.inl ⟨by rfl, ?yy28⟩) (by assumption) ?rr28
  case yy28 => (intro wq hSw; (try dsimp only at hSw); go_simp; try with_reducible rfl)
  try simp only [Act.put, List.setIfInBounds_toArray, List.set_cons_zero, List.set_cons_succ]
  refine wpAnyH_take (i := 28) (oi := ⟨some 38, _, _, _, _, _⟩) (v := ?vv29) rfl (by kernel_rfl) (by kernel_rfl) (by kernel_rfl) (fun _ _ _ h => h) (Or.inl ⟨by rfl, ?yy29⟩) (by assumption) ?rr29
  case yy29 => (intro wq hSw; (try dsimp only at hSw); go_simp; try with_reducible rfl)
  try simp only [Act.put, List.setIfInBounds_toArray, List.set_cons_zero, List.set_cons_succ]
  refine wpAnyH_take (i := 29) (oi := ⟨some 39, _, _, _, _, _⟩) (v := ?vv30) rfl (by kernel_rfl) (by kernel_rfl) (by kernel_rfl) (fun _ _ _ h => h) (Or.inl ⟨by rfl, ?yy30⟩) (by assumption) ?rr30
  case yy30 => (intro wq hSw; (try dsimp only at hSw); go_simp; try with_reducible rfl)
  try simp only [Act.put, List.setIfInBounds_toArray, List.set_cons_zero, List.set_cons_succ]
  refine wpAnyH_take (i := 30) (oi := ⟨some 40, _, _, _, _, _⟩) (v := ?vv31) rfl (by kernel_rfl) (by kernel_rfl) (by kernel_rfl) (fun _ _ _ h => h) (Or.inl ⟨by rfl, ?yy31⟩) (by assumption) ?rr31
  case yy31 => (intro wq hSw; (try dsimp only at hSw); go_simp; try with_reducible rfl)
  try simp only [Act.put, List.setIfInBounds_toArray, List.set_cons_zero, List.set_cons_succ]
  refine wpAnyH_take (i := 31) (oi := ⟨some 41, _, _, _, _, _⟩) (v := ?vv32) rfl (by kernel_rfl) (by kernel_rfl) (by kernel_rfl) (fun _ _ _ h => h) (Or.inl ⟨by rfl, ?yy32⟩) (by assumption) ?rr32
  case yy32 => (intro wq hSw; (try dsimp only at hSw); go_simp; try with_reducible rfl)
  try simp only [Act.put, List.setIfInBounds_toArray, List.set_cons_zero, List.set_cons_succ]
  refine wpAnyH_take (i := 32) (oi := ⟨some 42, _, _, _, _, _⟩) (v := ?vv33) rfl (by kernel_rfl) (by kernel_rfl) (by kernel_rfl) (fun _ _ _ h => h) (Or.inl ⟨by rfl, ?yy33⟩) (by assumption) ?rr33
  case yy33 => (intro wq hSw; (try dsimp only at hSw); go_simp; try with_reducible rfl)
  try simp only [Act.put, List.setIfInBounds_toArray, List.set_cons_zero, List.set_cons_succ]
  refine wpAnyH_take (i := 33) (oi := ⟨some 43, _, _, _, _, _⟩) (v := ?vv34) rfl (by kernel_rfl) (by kernel_rfl) (by kernel_rfl) (fun _ _ _ h => h) (Or.inl ⟨by rfl, ?yy34⟩) (by assumption) ?rr34
  case yy34 => (intro wq hSw; (try dsimp only at hSw); go_simp; try with_reducible rfl)
  try simp only [Act.put, List.setIfInBounds_toArray, List.set_cons_zero, List.set_cons_succ]
  refine wpAnyH_take (i := 34) (oi := ⟨some 44, _, _, _, _, _⟩) (v := ?vv35) rfl (by kernel_rfl) (by kernel_rfl) (by kernel_rfl) (fun _ _ _ h => h) (Or.inl ⟨by rfl, ?yy35⟩) (by assumption) ?rr35
  case yy35 => (intro wq hSw; (try dsimp only at hSw); go_simp; try with_reducible rfl)
  try simp only [Act.put, List.setIfInBounds_toArray, List.set_cons_zero, List.set_cons_succ]
  refine wpAnyH_take (i := 35) (oi := ⟨some 45, _, _, _, _, _⟩) (v := ?vv36) rfl (by kernel_rfl) (by kernel_rfl) (by kernel_rfl) (fun _ _ _ h => h) (Or.inl ⟨by rfl, ?yy36⟩) (by assumption) ?rr36
  case yy36 => (intro wq hSw; (try dsimp only at hSw); go_simp; try with_reducible rfl)
  try simp only [Act.put, List.setIfInBounds_toArray, List.set_cons_zero, List.set_cons_succ]
  refine wpAnyH_take (i := 36) (oi := ⟨some 46, _, _, _, _, _⟩) (v := ?vv37) rfl (by kernel_rfl) (by kernel_rfl) (by kernel_rfl) (fun _ _ _ h => h) (Or.inl ⟨by rfl, ?yy37⟩) (by assumption) ?rr37
  case yy37 => (intro wq hSw; (try dsimp only at hSw); go_simp; try with_reducible rfl)
  try simp only [Act.put, List.setIfInBounds_toArray, List.set_cons_zero, List.set_cons_succ]
  refine wpAnyH_ready (rs := [37]) (by kernel_rfl) (by simp) ?_
  refine AllReadyH.cons rfl (fun K hK => ?_) AllReadyH.nil
  go_simp
  ((refine (hB.out _ _ hbut1 hc1 (Below.refl _ _)).mono ?_); rintro ev w2 ⟨rfl, hw2, hc2, hbut2⟩)
  refine hK.out _ _ ?ss38 (fun hHeld2 => ?rr38)
  case ss38 => (obtain ⟨x0, x1, x2, x3, x4, x5, x6, y0, y1, y2, y3, y4, y5, y6⟩ := hw2; exact ⟨x0, x1, x2, x3, x4, x5, x6, y0, y1, y2, y3, y4, y5, y6, hc2⟩)
  clear hK K
  try simp only [Act.put, List.setIfInBounds_toArray, List.set_cons_zero, List.set_cons_succ]
  refine wpAnyH_take (i := 38) (oi := ⟨some 48, _, _, _, _, _⟩) (v := ?vv39) rfl (by kernel_rfl) (by kernel_rfl) (by kernel_rfl) (fun _ _ _ h => h) (Or.inl ⟨by rfl, ?yy39⟩) (by assumption) ?rr39
  case yy39 => (intro wq hSw; (try dsimp only at hSw); go_simp; try with_reducible rfl)
  try simp only [Act.put, List.setIfInBounds_toArray, List.set_cons_zero, List.set_cons_succ]
  refine wpAnyH_take (i := 39) (oi := ⟨some 49, _, _, _, _, _⟩) (v := ?vv40) rfl (by kernel_rfl) (by kernel_rfl) (by kernel_rfl) (fun _ _ _ h => h) (Or.inl ⟨by rfl, ?yy40⟩) (by assumption) ?rr40
  case yy40 => (intro wq hSw; (try dsimp only at hSw); go_simp; try with_reducible rfl)
  try simp only [Act.put, List.setIfInBounds_toArray, List.set_cons_zero, List.set_cons_succ]
  refine wpAnyH_take (i := 40) (oi := ⟨some 50, _, _, _, _, _⟩) (v := ?vv41) rfl (by kernel_rfl) (by kernel_rfl) (by kernel_rfl) (fun _ _ _ h => h) (Or.inl ⟨by rfl, ?yy41⟩) (by assumption) ?rr41
  case yy41 => (intro wq hSw; (try dsimp only at hSw); go_simp; try with_reducible rfl)
  try simp only [Act.put, List.setIfInBounds_toArray, List.set_cons_zero, List.set_cons_succ]
  refine wpAnyH_take (i := 41) (oi := ⟨some 51, _, _, _, _, _⟩) (v := ?vv42) rfl (by kernel_rfl) (by kernel_rfl) (by kernel_rfl) (fun _ _ _ h => h) (Or.inl ⟨by rfl, ?yy42⟩) (by assumption) ?rr42
  case yy42 => (intro wq hSw; (try dsimp only at hSw); go_simp; try with_reducible rfl)
  try simp only [Act.put, List.setIfInBounds_toArray, List.set_cons_zero, List.set_cons_succ]
  refine wpAnyH_ready (rs := [42]) (by kernel_rfl) (by simp) ?_
  refine AllReadyH.cons rfl (fun K hK => ?_) AllReadyH.nil
  go_simp
  ((refine (hu _).mono ?_); rintro ev w3 ⟨rfl, rfl⟩)
  refine hK.out _ _ ?ss43 (fun hHeld2 => ?rr43)
  case ss43 => exact hHeld2
  clear hK K
  try simp only [Act.put, List.setIfInBounds_toArray, List.set_cons_zero, List.set_cons_succ]
  refine wpAnyH_ready (rs := [43]) (by kernel_rfl) (by simp) ?_
  refine AllReadyH.cons rfl (fun K hK => ?_) AllReadyH.nil
  go_simp
  ((refine (hk _).mono ?_); rintro ev w4 ⟨rfl, rfl⟩)
  refine hK.out _ _ ?ss44 (fun hHeld2 => ?rr44)
  case ss44 => exact hHeld2
  clear hK K
  try simp only [Act.put, List.setIfInBounds_toArray, List.set_cons_zero, List.set_cons_succ]
  refine wpAnyH_take (i := 44) (oi := ⟨some 54, _, _, _, _, _⟩) (v := ?vv45) rfl (by kernel_rfl) (by kernel_rfl) (by kernel_rfl) (fun _ _ _ h => h) (Or.inl ⟨by rfl, ?yy45⟩) (by assumption) ?rr45
  case yy45 => (intro wq hSw; (try dsimp only at hSw); go_simp; try with_reducible rfl)
  try simp only [Act.put, List.setIfInBounds_toArray, List.set_cons_zero, List.set_cons_succ]
  refine wpAnyH_take (i := 45) (oi := ⟨some 55, _, _, _, _, _⟩) (v := ?vv46) rfl (by kernel_rfl) (by kernel_rfl) (by kernel_rfl) (fun _ _ _ h => h) (Or.inl ⟨by rfl, ?yy46⟩) (by assumption) ?rr46
  case yy46 => (intro wq hSw; (try dsimp only at hSw); go_simp; try with_reducible rfl)
  try simp only [Act.put, List.setIfInBounds_toArray, List.set_cons_zero, List.set_cons_succ]
  refine wpAnyH_take (i := 46) (oi := ⟨some 4, _, _, _, _, _⟩) (v := ?vv47) rfl (by kernel_rfl) (by kernel_rfl) (by kernel_rfl) (fun _ _ _ h => h) (Or.inl ⟨by rfl, ?yy47⟩) (by assumption) ?rr47
  case yy47 => (intro wq hSw; (try dsimp only at hSw); go_simp; try with_reducible rfl)
  try simp only [Act.put, List.setIfInBounds_toArray, List.set_cons_zero, List.set_cons_succ]
  refine wpAnyH_done (by kernel_rfl) ?_ _
  go_wp2_with fail
  go_ret
  exact ⟨rfl, (HBW.out).trans ((hbut2.below (B := w.heap.size) (HBW.out).size (fun k hk => by omega)))⟩

/-- The same of a code's. -/
def WC (g a : Nat) (c : Int) (W : World) : Prop :=
  W.cell? ⟨g, 0, none⟩ = some (.int .i64 0) ∧ W.cell? ⟨g, 7, none⟩ = some (.int .i64 c) ∧ W.cell? ⟨a, 0, none⟩ = some (.int .i64 c)
theorem WC.but {C : Nat → Prop} {w w' : World} (h : But C w w') {g a : Nat} {c : Int} (hg : ¬ C g) (ha : ¬ C a) (k : WC g a c w) : WC g a c w' := by
  obtain ⟨k0, k1, k2⟩ := k
  exact ⟨but_cell h hg k0, but_cell h hg k1, but_cell h ha k2⟩
theorem at_butF {C : Nat → Prop} {w w' : World} (h : But C w w') {a : Nat} {c : Int} (ha : ¬ C a) (k : (Er.fa a c).At w) : (Er.fa a c).At w' := by
  have hk : Blk w a 91 #[.int .i64 c] := k
  exact (h.block a hk.lt ha).trans hk

set_option maxRecDepth 100000 in
set_option maxHeartbeats 4000000 in
theorem shows_code (a : Nat) (c : Int) (w : World) (hg : Han w) (hat : (Er.fa a c).At w) (hc0 : c ≠ 0) :
    Calls Tryd.prog 21 #[(Er.fa a c).val, wnV (.code c)] w fun ev w' => ev = .returned (.bool true) ∧ Below w.heap.size w w' := by
  obtain ⟨W, hW⟩ : ∃ W, ((w.alloc (.cells (wnC (.code c)).toArray 39)).alloc (.cells #[.pointer none] 86)).alloc (.cells #[.pointer none] 87) = W := ⟨_, rfl⟩
  have hbW : Below w.heap.size w W := by rw [← hW]; exact bal (bal (bal (Below.refl _ _) _) _) _
  have hsz : W.heap.size = w.heap.size + 3 := by rw [← hW]; simp
  have hat0 : Blk w a 91 #[.int .i64 c] := hat
  have hal : a < w.heap.size := hat0.lt
  have hat' : (Er.fa a c).At W := Er.At.below hbW hat
  have hblk : Blk W w.heap.size 39 (wnC (.code c)).toArray := by rw [← hW]; exact ((Blk.new _ _ _).alloc _).alloc _
  have hblkb : Blk W (w.heap.size + 1) 86 #[.pointer none] := by rw [← hW]; have := (Blk.new (w.alloc (.cells (wnC (.code c)).toArray 39)) 86 #[.pointer none]).alloc (.cells #[.pointer none] 87); simpa using this
  have hblkf : Blk W (w.heap.size + 1 + 1) 87 #[.pointer none] := by rw [← hW]; have := (Blk.new ((w.alloc (.cells (wnC (.code c)).toArray 39)).alloc (.cells #[.pointer none] 86)) 87 #[.pointer none]); simpa using this
  have hwb : WC w.heap.size a c W := by
    have hk : Blk W a 91 #[.int .i64 c] := hat'
    exact ⟨by rw [hblk.cell 0]; rfl, by rw [hblk.cell 7]; rfl, by rw [hk.cell 0]; rfl⟩
  have hb0 : W.cell? ⟨w.heap.size + 1, 0, none⟩ = some (.pointer none) := by rw [hblkb.cell 0]; rfl
  have hf0 : W.cell? ⟨w.heap.size + 1 + 1, 0, none⟩ = some (.pointer none) := by rw [hblkf.cell 0]; rfl
  have hbz : ∀ p : Addr, p.block = w.heap.size + 1 → W.frozen? p = false := fun p hp => by unfold World.frozen?; rw [hp, hblkb]; simp
  have hfz : ∀ p : Addr, p.block = w.heap.size + 1 + 1 → W.frozen? p = false := fun p hp => by unfold World.frozen?; rw [hp, hblkf]; simp
  have HZ := Lib.hid hbz
  have hgW := hg.below hbW
  have hA : Hid (∀ W', Below W.heap.size W W' → Calls Tryd.prog 26 #[(Er.fa a c).val, .iface 133 (.pointer (some ⟨w.heap.size + 1 + 1, 0, none⟩))] W' fun ev w' => ev = .returned (.bool true) ∧ WC w.heap.size a c w' ∧ w'.cell? ⟨w.heap.size + 1 + 1, 0, none⟩ = some (ptr' a) ∧ But (· = w.heap.size + 1 + 1) W w') := Lib.hid fun W' hb => by
    refine (As_F (.fa a c) (w.heap.size + 1 + 1) (.pointer none) W' (hgW.below hb) (Er.At.below hb hat') ((hb.cell (p := ⟨w.heap.size + 1 + 1, 0, none⟩) hblkf.lt).trans hf0) ((hb.frozen (p := ⟨w.heap.size + 1 + 1, 0, none⟩) hblkf.lt).trans (hfz _ rfl))).mono ?_
    rintro ev w' ⟨h1, h2, h3⟩
    have hbut : But (· = w.heap.size + 1 + 1) W w' := (But.of_below hb).trans h2 fun _ _ h => h
    exact ⟨h1, WC.but hbut (by omega) (by omega) hwb, h3, hbut⟩
  have hB : Hid (∀ w1 W', But (· = w.heap.size + 1 + 1) W w1 → w1.cell? ⟨w.heap.size + 1 + 1, 0, none⟩ = some (ptr' a) → Below w1.heap.size w1 W' → Calls Tryd.prog 26 #[(Er.fa a c).val, .iface 129 (.pointer (some ⟨w.heap.size + 1, 0, none⟩))] W' fun ev w' => ev = .returned (.bool false) ∧ WC w.heap.size a c w' ∧ w'.cell? ⟨w.heap.size + 1 + 1, 0, none⟩ = some (ptr' a) ∧ But (· = w.heap.size + 1 + 1) W w') := Lib.hid fun w1 W' hbut hc hb => by
    have hbut' : But (· = w.heap.size + 1 + 1) W W' := hbut.trans (But.of_below hb (C := (· = w.heap.size + 1 + 1))) fun _ _ h => h
    have e1 : ¬ (w.heap.size + 1 = w.heap.size + 1 + 1) := by omega
    refine (As_B (.fa a c) (w.heap.size + 1) (.pointer none) W' ((hgW.below (Below.refl _ _)) |> fun h => but_cell hbut' (p := ⟨0, 0, none⟩) (by show ¬ 0 = w.heap.size + 1 + 1; omega) h) (at_butF hbut' (by omega) hat') (but_cell hbut' (p := ⟨w.heap.size + 1, 0, none⟩) e1 hb0) ((but_frozen hbut' (p := ⟨w.heap.size + 1, 0, none⟩) e1 hblkb.lt).trans (HZ.out _ rfl))).mono ?_
    rintro ev w' ⟨h1, h2⟩
    have hbut2 : But (· = w.heap.size + 1 + 1) W w' := hbut'.trans (But.of_below h2 (C := (· = w.heap.size + 1 + 1))) fun _ _ h => h
    have hl1 : (⟨w.heap.size + 1 + 1, 0, none⟩ : Addr).block < w1.heap.size := cell_lt hc
    exact ⟨h1, WC.but hbut2 (by omega) (by omega) hwb, (bl hb h2).cell hl1 |>.trans hc, hbut2⟩
  have hu : Hid (∀ W', WC w.heap.size a c W' → But (· = w.heap.size + 1 + 1) W W' → Calls Tryd.prog 36 #[ptr' a] W' fun e w' => e = .returned (.iface 37 (.int .i64 c)) ∧ W' = w') := Lib.hid fun W' _ hbut => (unF_some a c W' (at_butF hbut (by omega) hat')).mono fun e w' h => by rw [if_neg hc0] at h; exact h
  have hk := fun W' => kod_any (.er c) W'
  have HBW := Lib.hid hbW
  have HWB := Lib.hid hwb
  simp only [Er.val, ptr', Er.kod] at hA hB hu hk ⊢
  clear hat hat0 hat' hblk hblkb hblkf hb0 hf0 hbz hfz hgW hbW hc0 hwb hsz hg
  unfold wnV
  simp only [wnC] at hW ⊢
  have q0 := HWB.out.1
  go_enter Tryd.func21, Tryd.ntmps21
  go_upto_region 5 with fail
  try rw [hW]
  refine wp_region_any (by kernel_rfl) ?_
  try (change wpAny _ _ _ _ _ _ _ (World.drew _))
  refine wpAny_take (i := 0) (oi := ⟨some 56, _, _, _, _, _⟩) (v := ?vv48) rfl (by kernel_rfl) (by kernel_rfl) (by kernel_rfl) (fun _ _ _ h => h) (Or.inl ⟨by rfl, ?yy48⟩) ?rr48
  case yy48 => (intro wq; go_simp; try with_reducible rfl)
  try simp only [Act.put, List.setIfInBounds_toArray, List.set_cons_zero, List.set_cons_succ]
  refine wpAny_take (i := 1) (oi := ⟨some 57, _, _, _, _, _⟩) (v := ?vv49) rfl (by kernel_rfl) (by kernel_rfl) (by kernel_rfl) (fun _ _ _ h => h) (Or.inl ⟨by rfl, ?yy49⟩) ?rr49
  case yy49 => (intro wq; go_simp; try with_reducible rfl)
  try simp only [Act.put, List.setIfInBounds_toArray, List.set_cons_zero, List.set_cons_succ]
  refine wpAny_ready (rs := [2]) (by kernel_rfl) (by simp) ?_
  refine AllReady.cons rfl (fun K hK => ?_) AllReady.nil
  go_simp
  ((refine (hA.out _ (Below.refl _ _).drew).mono ?_); rintro ev w1 ⟨rfl, hw1, hc1, hbut1⟩)
  refine hK _ _ ?_
  clear hK K
  try simp only [Act.put, List.setIfInBounds_toArray, List.set_cons_zero, List.set_cons_succ]
  refine wpAny_of_held (S := (fun W' => W'.cell? ⟨w.heap.size, 0, none⟩ = some (.int .i64 0) ∧ W'.cell? ⟨w.heap.size, 7, none⟩ = some (.int .i64 c) ∧ W'.cell? ⟨a, 0, none⟩ = some (.int .i64 c) ∧ W'.cell? ⟨w.heap.size + 1 + 1, 0, none⟩ = some (.pointer (some ⟨a, 0, none⟩)))) _ _ _ _ ?_
  have hHeld : (fun W' => W'.cell? ⟨w.heap.size, 0, none⟩ = some (.int .i64 0) ∧ W'.cell? ⟨w.heap.size, 7, none⟩ = some (.int .i64 c) ∧ W'.cell? ⟨a, 0, none⟩ = some (.int .i64 c) ∧ W'.cell? ⟨w.heap.size + 1 + 1, 0, none⟩ = some (.pointer (some ⟨a, 0, none⟩))) w1 := by (obtain ⟨x0, x1, x2⟩ := hw1; exact ⟨x0, x1, x2, hc1⟩)
  clear hA
  refine wpAnyH_take (i := 3) (oi := ⟨some 59, _, _, _, _, _⟩) (v := ?vv51) rfl (by kernel_rfl) (by kernel_rfl) (by kernel_rfl) (fun _ _ _ h => h) (Or.inl ⟨by rfl, ?yy51⟩) (by assumption) ?rr51
  case yy51 => (intro wq hSw; (try dsimp only at hSw); go_simp; try with_reducible rfl)
  try simp only [Act.put, List.setIfInBounds_toArray, List.set_cons_zero, List.set_cons_succ]
  refine wpAnyH_take (i := 4) (oi := ⟨some 60, _, _, _, _, _⟩) (v := ?vv52) rfl (by kernel_rfl) (by kernel_rfl) (by kernel_rfl) (fun _ _ _ h => h) (Or.inl ⟨by rfl, ?yy52⟩) (by assumption) ?rr52
  case yy52 => (intro wq hSw; (try dsimp only at hSw); go_simp; try with_reducible rfl)
  try simp only [Act.put, List.setIfInBounds_toArray, List.set_cons_zero, List.set_cons_succ]
  refine wpAnyH_take (i := 5) (oi := ⟨some 61, _, _, _, _, _⟩) (v := ?vv53) rfl (by kernel_rfl) (by kernel_rfl) (by kernel_rfl) (fun _ _ _ h => h) (Or.inl ⟨by rfl, ?yy53⟩) (by assumption) ?rr53
  case yy53 => (intro wq hSw; (try dsimp only at hSw); go_simp; try with_reducible rfl)
  try simp only [Act.put, List.setIfInBounds_toArray, List.set_cons_zero, List.set_cons_succ]
  refine wpAnyH_take (i := 6) (oi := ⟨some 62, _, _, _, _, _⟩) (v := ?vv54) rfl (by kernel_rfl) (by kernel_rfl) (by kernel_rfl) (fun _ _ _ h => h) (Or.inl ⟨by rfl, ?yy54⟩) (by assumption) ?rr54
  case yy54 => (intro wq hSw; (try dsimp only at hSw); go_simp; try with_reducible rfl)
  try simp only [Act.put, List.setIfInBounds_toArray, List.set_cons_zero, List.set_cons_succ]
  refine wpAnyH_take (i := 7) (oi := ⟨some 63, _, _, _, _, _⟩) (v := ?vv55) rfl (by kernel_rfl) (by kernel_rfl) (by kernel_rfl) (fun _ _ _ h => h) (Or.inl ⟨by rfl, ?yy55⟩) (by assumption) ?rr55
  case yy55 => (intro wq hSw; (try dsimp only at hSw); go_simp; try with_reducible rfl)
  try simp only [Act.put, List.setIfInBounds_toArray, List.set_cons_zero, List.set_cons_succ]
  refine wpAnyH_take (i := 8) (oi := ⟨some 64, _, _, _, _, _⟩) (v := ?vv56) rfl (by kernel_rfl) (by kernel_rfl) (by kernel_rfl) (fun _ _ _ h => h) (Or.inl ⟨by rfl, ?yy56⟩) (by assumption) ?rr56
  case yy56 => (intro wq hSw; (try dsimp only at hSw); go_simp; try with_reducible rfl)
  try simp only [Act.put, List.setIfInBounds_toArray, List.set_cons_zero, List.set_cons_succ]
  refine wpAnyH_take (i := 9) (oi := ⟨some 65, _, _, _, _, _⟩) (v := ?vv57) rfl (by kernel_rfl) (by kernel_rfl) (by kernel_rfl) (fun _ _ _ h => h) (Or.inl ⟨by rfl, ?yy57⟩) (by assumption) ?rr57
  case yy57 => (intro wq hSw; (try dsimp only at hSw); go_simp; try with_reducible rfl)
  try simp only [Act.put, List.setIfInBounds_toArray, List.set_cons_zero, List.set_cons_succ]
  refine wpAnyH_take (i := 10) (oi := ⟨some 66, _, _, _, _, _⟩) (v := ?vv58) rfl (by kernel_rfl) (by kernel_rfl) (by kernel_rfl) (fun _ _ _ h => h) (Or.inl ⟨by rfl, ?yy58⟩) (by assumption) ?rr58
  case yy58 => (intro wq hSw; (try dsimp only at hSw); go_simp; try with_reducible rfl)
  try simp only [Act.put, List.setIfInBounds_toArray, List.set_cons_zero, List.set_cons_succ]
  refine wpAnyH_take (i := 11) (oi := ⟨some 67, _, _, _, _, _⟩) (v := ?vv59) rfl (by kernel_rfl) (by kernel_rfl) (by kernel_rfl) (fun _ _ _ h => h) (Or.inl ⟨by rfl, ?yy59⟩) (by assumption) ?rr59
  case yy59 => (intro wq hSw; (try dsimp only at hSw); go_simp; try with_reducible rfl)
  try simp only [Act.put, List.setIfInBounds_toArray, List.set_cons_zero, List.set_cons_succ]
  refine wpAnyH_take (i := 12) (oi := ⟨some 68, _, _, _, _, _⟩) (v := ?vv60) rfl (by kernel_rfl) (by kernel_rfl) (by kernel_rfl) (fun _ _ _ h => h) (Or.inl ⟨by rfl, ?yy60⟩) (by assumption) ?rr60
  case yy60 => (intro wq hSw; (try dsimp only at hSw); go_simp; try with_reducible rfl)
  try simp only [Act.put, List.setIfInBounds_toArray, List.set_cons_zero, List.set_cons_succ]
  refine wpAnyH_take (i := 13) (oi := ⟨some 69, _, _, _, _, _⟩) (v := ?vv61) rfl (by kernel_rfl) (by kernel_rfl) (by kernel_rfl) (fun _ _ _ h => h) (Or.inl ⟨by rfl, ?yy61⟩) (by assumption) ?rr61
  case yy61 => (intro wq hSw; (try dsimp only at hSw); go_simp; try with_reducible rfl)
  try simp only [Act.put, List.setIfInBounds_toArray, List.set_cons_zero, List.set_cons_succ]
  refine wpAnyH_take (i := 14) (oi := ⟨some 70, _, _, _, _, _⟩) (v := ?vv62) rfl (by kernel_rfl) (by kernel_rfl) (by kernel_rfl) (fun _ _ _ h => h) (Or.inl ⟨by rfl, ?yy62⟩) (by assumption) ?rr62
  case yy62 => (intro wq hSw; (try dsimp only at hSw); go_simp; try with_reducible rfl)
  try simp only [Act.put, List.setIfInBounds_toArray, List.set_cons_zero, List.set_cons_succ]
  refine wpAnyH_take (i := 15) (oi := ⟨some 71, _, _, _, _, _⟩) (v := ?vv63) rfl (by kernel_rfl) (by kernel_rfl) (by kernel_rfl) (fun _ _ _ h => h) (Or.inl ⟨by rfl, ?yy63⟩) (by assumption) ?rr63
  case yy63 => (intro wq hSw; (try dsimp only at hSw); go_simp; try with_reducible rfl)
  try simp only [Act.put, List.setIfInBounds_toArray, List.set_cons_zero, List.set_cons_succ]
  refine wpAnyH_take (i := 16) (oi := ⟨some 72, _, _, _, _, _⟩) (v := ?vv64) rfl (by kernel_rfl) (by kernel_rfl) (by kernel_rfl) (fun _ _ _ h => h) (Or.inl ⟨by rfl, ?yy64⟩) (by assumption) ?rr64
  case yy64 => (intro wq hSw; (try dsimp only at hSw); go_simp; try with_reducible rfl)
  try simp only [Act.put, List.setIfInBounds_toArray, List.set_cons_zero, List.set_cons_succ]
  refine wpAnyH_take (i := 17) (oi := ⟨some 73, _, _, _, _, _⟩) (v := ?vv65) rfl (by kernel_rfl) (by kernel_rfl) (by kernel_rfl) (fun _ _ _ h => h) (Or.inl ⟨by rfl, ?yy65⟩) (by assumption) ?rr65
  case yy65 => (intro wq hSw; (try dsimp only at hSw); go_simp; try with_reducible rfl)
  try simp only [Act.put, List.setIfInBounds_toArray, List.set_cons_zero, List.set_cons_succ]
  refine wpAnyH_take (i := 18) (oi := ⟨some 74, _, _, _, _, _⟩) (v := ?vv66) rfl (by kernel_rfl) (by kernel_rfl) (by kernel_rfl) (fun _ _ _ h => h) (Or.inl ⟨by rfl, ?yy66⟩) (by assumption) ?rr66
  case yy66 => (intro wq hSw; (try dsimp only at hSw); go_simp; try with_reducible rfl)
  try simp only [Act.put, List.setIfInBounds_toArray, List.set_cons_zero, List.set_cons_succ]
  refine wpAnyH_ready (rs := [19]) (by kernel_rfl) (by simp) ?_
  refine AllReadyH.cons rfl (fun K hK => ?_) AllReadyH.nil
  go_simp
  ((refine (hB.out _ _ hbut1 hc1 (Below.refl _ _)).mono ?_); rintro ev w2 ⟨rfl, hw2, hc2, hbut2⟩)
  refine hK.out _ _ ?ss67 (fun hHeld2 => ?rr67)
  case ss67 => (obtain ⟨x0, x1, x2⟩ := hw2; exact ⟨x0, x1, x2, hc2⟩)
  clear hK K
  try simp only [Act.put, List.setIfInBounds_toArray, List.set_cons_zero, List.set_cons_succ]
  refine wpAnyH_take (i := 20) (oi := ⟨some 76, _, _, _, _, _⟩) (v := ?vv68) rfl (by kernel_rfl) (by kernel_rfl) (by kernel_rfl) (fun _ _ _ h => h) (Or.inl ⟨by rfl, ?yy68⟩) (by assumption) ?rr68
  case yy68 => (intro wq hSw; (try dsimp only at hSw); go_simp; try with_reducible rfl)
  try simp only [Act.put, List.setIfInBounds_toArray, List.set_cons_zero, List.set_cons_succ]
  refine wpAnyH_take (i := 21) (oi := ⟨some 77, _, _, _, _, _⟩) (v := ?vv69) rfl (by kernel_rfl) (by kernel_rfl) (by kernel_rfl) (fun _ _ _ h => h) (Or.inl ⟨by rfl, ?yy69⟩) (by assumption) ?rr69
  case yy69 => (intro wq hSw; (try dsimp only at hSw); go_simp; try with_reducible rfl)
  try simp only [Act.put, List.setIfInBounds_toArray, List.set_cons_zero, List.set_cons_succ]
  refine wpAnyH_take (i := 22) (oi := ⟨some 78, _, _, _, _, _⟩) (v := ?vv70) rfl (by kernel_rfl) (by kernel_rfl) (by kernel_rfl) (fun _ _ _ h => h) (Or.inl ⟨by rfl, ?yy70⟩) (by assumption) ?rr70
  case yy70 => (intro wq hSw; (try dsimp only at hSw); go_simp; try with_reducible rfl)
  try simp only [Act.put, List.setIfInBounds_toArray, List.set_cons_zero, List.set_cons_succ]
  refine wpAnyH_take (i := 23) (oi := ⟨some 79, _, _, _, _, _⟩) (v := ?vv71) rfl (by kernel_rfl) (by kernel_rfl) (by kernel_rfl) (fun _ _ _ h => h) (Or.inl ⟨by rfl, ?yy71⟩) (by assumption) ?rr71
  case yy71 => (intro wq hSw; (try dsimp only at hSw); go_simp; try with_reducible rfl)
  try simp only [Act.put, List.setIfInBounds_toArray, List.set_cons_zero, List.set_cons_succ]
  refine wpAnyH_take (i := 26) (oi := ⟨some 82, _, _, _, _, _⟩) (v := ?vv72) rfl (by kernel_rfl) (by kernel_rfl) (by kernel_rfl) (fun _ _ _ h => h) (Or.inl ⟨by rfl, ?yy72⟩) (by assumption) ?rr72
  case yy72 => (intro wq hSw; (try dsimp only at hSw); go_simp; try with_reducible rfl)
  try simp only [Act.put, List.setIfInBounds_toArray, List.set_cons_zero, List.set_cons_succ]
  refine wpAnyH_take (i := 27) (oi := ⟨some 83, _, _, _, _, _⟩) (v := ?vv73) rfl (by kernel_rfl) (by kernel_rfl) (by kernel_rfl) (fun _ _ _ h => h) (Or.inl ⟨by rfl, ?yy73⟩) (by assumption) ?rr73
  case yy73 => (intro wq hSw; (try dsimp only at hSw); go_simp; try with_reducible rfl)
  try simp only [Act.put, List.setIfInBounds_toArray, List.set_cons_zero, List.set_cons_succ]
  refine wpAnyH_ready (rs := [24]) (by kernel_rfl) (by simp) ?_
  refine AllReadyH.cons rfl (fun K hK => ?_) AllReadyH.nil
  go_simp
  ((refine (hu.out _ hw2 hbut2).mono ?_); rintro ev w3 ⟨rfl, rfl⟩)
  refine hK.out _ _ ?ss74 (fun hHeld2 => ?rr74)
  case ss74 => exact hHeld2
  clear hK K
  try simp only [Act.put, List.setIfInBounds_toArray, List.set_cons_zero, List.set_cons_succ]
  refine wpAnyH_ready (rs := [25]) (by kernel_rfl) (by simp) ?_
  refine AllReadyH.cons rfl (fun K hK => ?_) AllReadyH.nil
  go_simp
  ((refine (hk _).mono ?_); rintro ev w4 ⟨rfl, rfl⟩)
  refine hK.out _ _ ?ss75 (fun hHeld2 => ?rr75)
  case ss75 => exact hHeld2
  clear hK K
  try simp only [Act.put, List.setIfInBounds_toArray, List.set_cons_zero, List.set_cons_succ]
  refine wpAnyH_take (i := 28) (oi := ⟨some 84, _, _, _, _, _⟩) (v := ?vv76) rfl (by kernel_rfl) (by kernel_rfl) (by kernel_rfl) (fun _ _ _ h => h) (Or.inl ⟨by rfl, ?yy76⟩) (by assumption) ?rr76
  case yy76 => (intro wq hSw; (try dsimp only at hSw); go_simp; try with_reducible rfl)
  try simp only [Act.put, List.setIfInBounds_toArray, List.set_cons_zero, List.set_cons_succ]
  refine wpAnyH_take (i := 29) (oi := ⟨some 85, _, _, _, _, _⟩) (v := ?vv77) rfl (by kernel_rfl) (by kernel_rfl) (by kernel_rfl) (fun _ _ _ h => h) (Or.inl ⟨by rfl, ?yy77⟩) (by assumption) ?rr77
  case yy77 => (intro wq hSw; (try dsimp only at hSw); go_simp; try with_reducible rfl)
  try simp only [Act.put, List.setIfInBounds_toArray, List.set_cons_zero, List.set_cons_succ]
  refine wpAnyH_take (i := 30) (oi := ⟨some 4, _, _, _, _, _⟩) (v := ?vv78) rfl (by kernel_rfl) (by kernel_rfl) (by kernel_rfl) (fun _ _ _ h => h) (Or.inl ⟨by rfl, ?yy78⟩) (by assumption) ?rr78
  case yy78 => (intro wq hSw; (try dsimp only at hSw); go_simp; try with_reducible rfl)
  try simp only [Act.put, List.setIfInBounds_toArray, List.set_cons_zero, List.set_cons_succ]
  refine wpAnyH_done (by kernel_rfl) ?_ _
  go_wp2_with fail
  go_ret
  exact ⟨rfl, (HBW.out).trans ((hbut2.below (B := w.heap.size) (HBW.out).size (fun k hk => by omega)))⟩

end Go.Proofs.YtkebplifkkhhlaaDoor.F
