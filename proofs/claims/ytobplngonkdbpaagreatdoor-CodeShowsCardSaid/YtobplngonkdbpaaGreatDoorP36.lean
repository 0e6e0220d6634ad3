/- Parts of this claim: AoF. -/
import Derived.Test.YtobplngonkdbpaaGreatDoorP35
import Derived.Test.YtobplngonkdbpaaGreatDoorP25
set_option linter.unusedVariables false
set_option linter.unusedSimpArgs false
/- AoF -/
namespace Go.Proofs.YtobplngonkdbpaaGreatDoor.D
open Go.RowKit
open Go.Proofs.YtobplngonkdbpaaGreatDoor.B
set_option linter.unusedVariables false
set_option linter.unusedSimpArgs false
/-- A list with marks, that lies from lo on. -/
def Wr (W : World) (sz : Nat) (v : Value) (n lo : Nat) (xs : List Value) : Prop := ∃ b, lo <= b /\ v = .slice (some ⟨b, 0, none⟩) n (n + 64) /\ Sl W W.heap.size sz (some ⟨b, 0, none⟩) (n + 64) xs
section
variable {W W' : World} {sz n lo lo' : Nat} {v : Value} {xs : List Value}
theorem Wr.grow (h : Wr W sz v n lo xs) (hb : Below W.heap.size W W') : Wr W' sz v n lo xs := by
 obtain ⟨b, hl, e, s⟩ := h
 exact ⟨b, hl, e, (s.below hb).more hb.size⟩
theorem Wr.low (h : Wr W sz v n lo xs) (hl : lo' <= lo) : Wr W sz v n lo' xs := by
 obtain ⟨b, h1, e, s⟩ := h
 exact ⟨b, by omega, e, s⟩
theorem Wr.but {C : Nat -> Prop} (h : Wr W sz v n lo xs) (hb : But C W W') (hC : ∀ k, C k -> k < lo) : Wr W' sz v n lo xs := by
 obtain ⟨b, h1, e, s⟩ := h
 refine ⟨b, h1, e, s.1, ?_⟩
 obtain ⟨b', o, e', h2, h3⟩ := s.2.resolve_left (by omega)
 injection e' with e'
 injection e' with e1 e2 _
 subst e1 e2
 refine .inr ⟨b, 0, rfl, Nat.lt_of_lt_of_le h2 hb.size, fun j u hu => ?_⟩
 exact (World.cell?_of_block (w := W) (hb.block b h2 fun hc => by have := hC b hc; omega)).trans (h3 j u hu)
theorem Wr.wd (h : Wr W sz v n lo xs) : Wd W sz v n xs := by
 obtain ⟨b, _, e, s⟩ := h
 exact ⟨b, e, s⟩
end
theorem but_cells {C : Nat -> Prop} {a w : World} (h : But C a w) {b : Nat} (hb : C b) (vs : List Value) (o : Nat) : But C a (w.setCells b o vs) := by
 obtain ⟨h1, h2, h3, h4⟩ := setCells_size b vs o w
 exact ⟨h2.trans h.os, h3.trans h.tape, h4.trans h.output, by rw [h1]; exact h.size, fun k hk hc => (setCells_other b vs o w k (fun e => hc (e ▸ hb))).trans (h.block k hk hc)⟩
/-- Marks from N on, up to k. -/
def marks {α : Type} (mk : Nat -> α) (N k : Nat) : List α := (List.range (k - N)).map fun j => mk (N + j)
section
variable {α : Type} {mk : Nat -> α} {N k sz : Nat} {f : α -> List Value} {X : List α} {s : α} {q : Nat -> Value}
theorem marks_lt (h : k <= N) : marks mk N k = [] := by unfold marks; rw [Nat.sub_eq_zero_of_le h]; rfl
theorem marks_succ (h : N <= k) : marks mk N (k + 1) = marks mk N k ++ [mk k] := by
 unfold marks
 rw [show k + 1 - N = (k - N) + 1 by omega, List.range_succ, List.map_append]
 simp only [List.map_cons, List.map_nil]
 rw [show N + (k - N) = k by omega]
theorem marks_whole {D : List α} (h : D.length = N) : D ++ marks mk N (N + 64) = whole mk D := by unfold marks whole; rw [Nat.add_sub_cancel_left, h]
theorem row_app (hsz : ∀ x, (f x).length = sz) (hX : X.length = k) (h : ∀ j, j < k * sz -> q j = (X.flatMap f).getD j default) :
  ∀ j, j < (k + 1) * sz -> (if k * sz <= j /\ j < k * sz + (f s).length then (f s)[j - k * sz]?.getD default else q j) = ((X ++ [s]).flatMap f).getD j default := by
 intro j hj
 have hl := flatL f sz hsz X
 have he : (k + 1) * sz = k * sz + sz := Nat.succ_mul k sz
 have hs := hsz s
 rw [hX] at hl
 rw [List.flatMap_append, List.getD_eq_getElem?_getD]
 by_cases h1 : j < k * sz
 · rw [if_neg (by omega), List.getElem?_append_left (by omega), h j h1, List.getD_eq_getElem?_getD]
 ·
  rw [if_pos (by omega), List.getElem?_append_right (by omega), hl]
  simp
end
def mkF (i : Nat) : FuL := ⟨.slice none 0 0, ⟨[], mkT i, [], []⟩, .slice none 0 0⟩
def mkW (i : Nat) : WtL := ⟨⟨mkT i, [], []⟩, .slice none 0 0⟩
def WfF (W : World) (lo : Nat) (g : FuL) : Prop := Wr W 1 g.ev g.f.env.length lo (envC (whole mkT g.f.env)) /\ Wr W 3 g.cv g.f.code.length lo (codC (whole mkI g.f.code))
def WfW (W : World) (lo : Nat) (g : WtL) : Prop := Wr W 7 g.cv g.w.co.length lo (cosC (whole mkC g.w.co))
theorem WfF.grow {W W' : World} {lo : Nat} {g : FuL} (h : WfF W lo g) (hb : Below W.heap.size W W') : WfF W' lo g := ⟨h.1.grow hb, h.2.grow hb⟩
theorem WfW.grow {W W' : World} {lo : Nat} {g : WtL} (h : WfW W lo g) (hb : Below W.heap.size W W') : WfW W' lo g := Wr.grow h hb
theorem WfF.but {C : Nat -> Prop} {W W' : World} {lo : Nat} {g : FuL} (h : WfF W lo g) (hb : But C W W') (hC : ∀ k, C k -> k < lo) : WfF W' lo g := ⟨h.1.but hb hC, h.2.but hb hC⟩
theorem WfW.but {C : Nat -> Prop} {W W' : World} {lo : Nat} {g : WtL} (h : WfW W lo g) (hb : But C W W') (hC : ∀ k, C k -> k < lo) : WfW W' lo g := Wr.but h hb hC
theorem WfF.low {W : World} {lo lo' : Nat} {g : FuL} (h : WfF W lo g) (hl : lo' <= lo) : WfF W lo' g := ⟨h.1.low hl, h.2.low hl⟩
theorem WfW.low {W : World} {lo lo' : Nat} {g : WtL} (h : WfW W lo g) (hl : lo' <= lo) : WfW W lo' g := Wr.low h hl
theorem fu4 : ∀ g : FuL, g.cells.length = 4 := fun _ => rfl
theorem wt3 : ∀ g : WtL, g.cells.length = 3 := fun _ => rfl
theorem hin4 : (Tryz.prog.info? 90).map (·.size) = some 4 := by kernel_rfl
theorem hin3w : (Tryz.prog.info? 84).map (·.size) = some 3 := by kernel_rfl
set_option maxRecDepth 100000 in
set_option maxHeartbeats 1000000 in
theorem wideFunction_c (f : Fu) (M Q : Nat) (A1 A2 : Option Addr) (c1 c2 : Nat) (w : World) (hM : f.env.length = M) (hMb : M <= 16777216) (hQ : f.code.length = Q) (hQb : Q <= 16777216) (hg : Gl w)
  (h0 : Sl w w.heap.size 1 A1 M (envC f.env)) (h1 : Sl w w.heap.size 3 A2 Q (codC f.code)) :
  Calls Tryz.prog 87 #[.agg #[.slice A1 M c1, .string ⟨f.param.toArray⟩, .string ⟨f.res.toArray⟩, .slice A2 Q c2]] w
   fun e w' => ∃ q0 q1, e = .returned (.agg #[.slice (some ⟨q0, 0, none⟩) M (M + 64), .string ⟨f.param.toArray⟩, .string ⟨f.res.toArray⟩, .slice (some ⟨q1, 0, none⟩) Q (Q + 64)]) /\ w.heap.size <= q0 /\ w.heap.size <= q1 /\ Sl w' w'.heap.size 1 (some ⟨q0, 0, none⟩) (M + 64) (envC (whole mkT f.env)) /\ Sl w' w'.heap.size 3 (some ⟨q1, 0, none⟩) (Q + 64) (codC (whole mkI f.code)) /\ Below w.heap.size w w' := by
 have HC0 := Lib.hid (fun W (h : Below w.heap.size w W) => (wideTexts_any f.env M A1 c1 W hM hMb (hg.on h) ((h0.below h).more h.size)).mono (show ∀ e w', _ -> ∃ q, W.heap.size <= q /\ e = .returned (.slice (some ⟨q, 0, none⟩) M (M + 64)) /\ Sl w' w'.heap.size 1 (some ⟨q, 0, none⟩) (M + 64) (envC (whole mkT f.env)) /\ Below W.heap.size W w' from fun e w' h => ⟨_, Nat.le_refl _, h.1, h.2.1, h.2.2⟩))
 have HC1 := Lib.hid (fun W (h : Below w.heap.size w W) => (wideIns_any f.code Q A2 c2 W hQ hQb ((h1.below h).more h.size)).mono (show ∀ e w', _ -> ∃ q, W.heap.size <= q /\ e = .returned (.slice (some ⟨q, 0, none⟩) Q (Q + 64)) /\ Sl w' w'.heap.size 3 (some ⟨q, 0, none⟩) (Q + 64) (codC (whole mkI f.code)) /\ Below W.heap.size W w' from fun e w' h => ⟨_, Nat.le_refl _, h.1, h.2.1, h.2.2⟩))
 obtain ⟨g0, hg0⟩ : ∃ x, w.heap.size = x := ⟨_, rfl⟩
 obtain ⟨W1, hW1⟩ : ∃ W1, ((w.alloc (.cells #[.slice A1 M c1, .string ⟨f.param.toArray⟩, .string ⟨f.res.toArray⟩, .slice A2 Q c2] 90)).alloc (.cells #[.slice none 0 0, .string ⟨#[]⟩, .string ⟨#[]⟩, .slice none 0 0] 90)) = W1 := ⟨_, rfl⟩
 have hb1 : Below w.heap.size w W1 := by rw [<- hW1]; exact bal (bal b0 _) _
 have k1 : Blk W1 g0 90 #[.slice A1 M c1, .string ⟨f.param.toArray⟩, .string ⟨f.res.toArray⟩, .slice A2 Q c2] := by rw [<- hW1, <- hg0]; exact (Blk.new w _ _).alloc _
 have k2 : Blk W1 (g0 + 1) 90 #[.slice none 0 0, .string ⟨#[]⟩, .string ⟨#[]⟩, .slice none 0 0] := by
  rw [<- hW1, <- hg0]
  have := Blk.new (w.alloc (.cells #[.slice A1 M c1, .string ⟨f.param.toArray⟩, .string ⟨f.res.toArray⟩, .slice A2 Q c2] 90)) 90 #[.slice none 0 0, .string ⟨#[]⟩, .string ⟨#[]⟩, .slice none 0 0]
  simpa only [World.size_alloc] using this
 have x0 : W1.cell? ⟨g0, 0, none⟩ = some (.slice A1 M c1) := (k1.cell 0).trans rfl
 have HK0 := Lib.hid (show Below w.heap.size w W1 /\ Blk W1 g0 90 #[.slice A1 M c1, .string ⟨f.param.toArray⟩, .string ⟨f.res.toArray⟩, .slice A2 Q c2] /\ Blk W1 (g0 + 1) 90 #[.slice none 0 0, .string ⟨#[]⟩, .string ⟨#[]⟩, .slice none 0 0] /\ w.heap.size = g0 from ⟨hb1, k1, k2, hg0⟩)
 clear h0 hM hMb h1 hQ hQb hb1 k1 k2 hg
 go_enter Tryz.func87, Tryz.ntmps87
 go_upto_region 1 with fail
 clear hW1 hg0
 go_wp2_with fail
 (refine (HC0.out _ HK0.out.1).mono ?_); rintro ev w2 ⟨q0, hq0, rfl, ho, hb⟩
 have k1 := HK0.out.2.1.below hb HK0.out.2.1.lt
 have x0' : w2.cell? ⟨g0, 0, none⟩ = some (.slice A1 M c1) := (k1.cell 0).trans rfl
 have z0 := k1.frozen 0
 have hlt : g0 + 1 < W1.heap.size := HK0.out.2.2.1.lt
 have hbut := but_set (C := fun k => k = g0) (But.refl _ w2) (b := g0) (i := 0) rfl (.slice (some ⟨q0, 0, none⟩) M (M + 64))
 have HX := Lib.hid (show ∀ X, w2.setCell ⟨g0, 0, none⟩ (.slice (some ⟨q0, 0, none⟩) M (M + 64)) = X -> Below w.heap.size w X /\ Blk X g0 90 #[.slice (some ⟨q0, 0, none⟩) M (M + 64), .string ⟨f.param.toArray⟩, .string ⟨f.res.toArray⟩, .slice A2 Q c2] /\ Blk X (g0 + 1) 90 #[.slice none 0 0, .string ⟨#[]⟩, .string ⟨#[]⟩, .slice none 0 0] /\ w.heap.size = g0 /\ g0 + 1 < X.heap.size /\ g0 + 1 < q0 /\ Wr X 1 (.slice (some ⟨q0, 0, none⟩) M (M + 64)) M (g0 + 2) (envC (whole mkT f.env)) from fun X hX => by
  rw [<- hX]
  refine ⟨below_set (bl HK0.out.1 hb) (by have := HK0.out.2.2.2; omega) _, k1.set_ 0 _, (HK0.out.2.2.1.below hb HK0.out.2.2.1.lt).far (p := ⟨g0, 0, none⟩) (show g0 + 1 ≠ g0 by omega) _, HK0.out.2.2.2, by have := hb.size; have := hbut.size; omega, by omega, Wr.but ⟨q0, by omega, rfl, ho⟩ hbut (fun k hk => by omega)⟩)
 clear k1 hlt hbut ho hb hq0 x0
 go_upto_region 2 with fail
 obtain ⟨W3, hW⟩ : ∃ X, w2.setCell ⟨g0, 0, none⟩ (.slice (some ⟨q0, 0, none⟩) M (M + 64)) = X := ⟨_, rfl⟩
 have HK1 := Lib.hid (HX.out _ hW)
 rw [hW]
 have x1 : W3.cell? ⟨g0, 3, none⟩ = some (.slice A2 Q c2) := (HK1.out.2.1.cell 3).trans rfl
 clear hW HX x0' z0
 go_wp2_with fail
 (refine (HC1.out _ HK1.out.1).mono ?_); rintro ev w4 ⟨q1, hq1, rfl, ho, hb⟩
 have k1 := HK1.out.2.1.below hb HK1.out.2.1.lt
 have x1' : w4.cell? ⟨g0, 3, none⟩ = some (.slice A2 Q c2) := (k1.cell 3).trans rfl
 have z1 := k1.frozen 3
 have hlt : g0 + 1 < W3.heap.size := HK1.out.2.2.1.lt
 have hbut := but_set (C := fun k => k = g0) (But.refl _ w4) (b := g0) (i := 3) rfl (.slice (some ⟨q1, 0, none⟩) Q (Q + 64))
 have HX := Lib.hid (show ∀ X, w4.setCell ⟨g0, 3, none⟩ (.slice (some ⟨q1, 0, none⟩) Q (Q + 64)) = X -> Below w.heap.size w X /\ Blk X g0 90 #[.slice (some ⟨q0, 0, none⟩) M (M + 64), .string ⟨f.param.toArray⟩, .string ⟨f.res.toArray⟩, .slice (some ⟨q1, 0, none⟩) Q (Q + 64)] /\ Blk X (g0 + 1) 90 #[.slice none 0 0, .string ⟨#[]⟩, .string ⟨#[]⟩, .slice none 0 0] /\ w.heap.size = g0 /\ g0 + 1 < X.heap.size /\ g0 + 1 < q0 /\ g0 + 1 < q1 /\ Wr X 1 (.slice (some ⟨q0, 0, none⟩) M (M + 64)) M (g0 + 2) (envC (whole mkT f.env)) /\ Wr X 3 (.slice (some ⟨q1, 0, none⟩) Q (Q + 64)) Q (g0 + 2) (codC (whole mkI f.code)) from fun X hX => by
  rw [<- hX]
  refine ⟨below_set (bl HK1.out.1 hb) (by have := HK1.out.2.2.2.1; omega) _, k1.set_ 3 _, (HK1.out.2.2.1.below hb HK1.out.2.2.1.lt).far (p := ⟨g0, 3, none⟩) (show g0 + 1 ≠ g0 by omega) _, HK1.out.2.2.2.1, by have := hb.size; have := hbut.size; omega, HK1.out.2.2.2.2.2.1, by omega, Wr.but (Wr.grow HK1.out.2.2.2.2.2.2 hb) hbut (fun k hk => by omega), Wr.but ⟨q1, by omega, rfl, ho⟩ hbut (fun k hk => by omega)⟩)
 clear k1 hlt hbut ho hb hq1 x1
 go_upto_region 3 with fail
 obtain ⟨W5, hW⟩ : ∃ X, w4.setCell ⟨g0, 3, none⟩ (.slice (some ⟨q1, 0, none⟩) Q (Q + 64)) = X := ⟨_, rfl⟩
 have HK2 := Lib.hid (HX.out _ hW)
 rw [hW]
 clear hW HX x1' z1
 have u0 : W5.cell? ⟨g0, 0, none⟩ = some (.slice (some ⟨q0, 0, none⟩) M (M + 64)) := (HK2.out.2.1.cell 0).trans rfl
 have u1 : W5.cell? ⟨g0, 1, none⟩ = some (.string ⟨f.param.toArray⟩) := (HK2.out.2.1.cell 1).trans rfl
 have u2 : W5.cell? ⟨g0, 2, none⟩ = some (.string ⟨f.res.toArray⟩) := (HK2.out.2.1.cell 2).trans rfl
 have u3 : W5.cell? ⟨g0, 3, none⟩ = some (.slice (some ⟨q1, 0, none⟩) Q (Q + 64)) := (HK2.out.2.1.cell 3).trans rfl
 have k5 := HK2.out.2.2.1
 go_wp2_with (refine wpList_store_row rfl 90 (.tmp 2) (.tmp 11) rfl (g0 + 1) #[.slice (some ⟨q0, 0, none⟩) M (M + 64), .string ⟨f.param.toArray⟩, .string ⟨f.res.toArray⟩, .slice (some ⟨q1, 0, none⟩) Q (Q + 64)] rfl rfl 90 _ k5 (by kernel_rfl) rfl (by kernel_rfl) ?_)
 (try simp only [Exit.inBlock, Exit.then])
 have hbut := but_setRow (C := fun k => k = g0 + 1) (But.refl _ W5) (.inl rfl) (#[.slice (some ⟨q0, 0, none⟩) M (M + 64), .string ⟨f.param.toArray⟩, .string ⟨f.res.toArray⟩, .slice (some ⟨q1, 0, none⟩) Q (Q + 64)] : Array Value)
 refine bodyPost_ret (results_cell_row rfl _ _ (g0 + 1) 90 #[.slice (some ⟨q0, 0, none⟩) M (M + 64), .string ⟨f.param.toArray⟩, .string ⟨f.res.toArray⟩, .slice (some ⟨q1, 0, none⟩) Q (Q + 64)] (0, 0) _ rfl (setRow_heap _ _ _ _ _ _ k5) Tryz.underlying90 rfl (by kernel_rfl)) rfl ⟨q0, q1, rfl, by have := HK2.out.2.2.2.1; have := HK2.out.2.2.2.2.2.1; omega, by have := HK2.out.2.2.2.1; have := HK2.out.2.2.2.2.2.2.1; omega, ?_, ?_, ?_⟩
 ·
  obtain ⟨b, _, e, s⟩ := Wr.but HK2.out.2.2.2.2.2.2.2.1 hbut (fun k hk => by omega)
  injection e with e; injection e with e; injection e with e; subst e; exact s
 ·
  obtain ⟨b, _, e, s⟩ := Wr.but HK2.out.2.2.2.2.2.2.2.2 hbut (fun k hk => by omega)
  injection e with e; injection e with e; injection e with e; subst e; exact s
 · exact below_setRow HK2.out.1 (by have := HK2.out.2.2.2.1; omega) _
set_option maxRecDepth 100000 in
set_option maxHeartbeats 1000000 in
theorem wideWait_c (f : Wt) (Q : Nat) (A2 : Option Addr) (c2 : Nat) (w : World) (hQ : f.co.length = Q) (hQb : Q <= 16777216) (hg : Gl w)
  (h0 : Sl w w.heap.size 7 A2 Q (cosC f.co)) :
  Calls Tryz.prog 89 #[.agg #[.string ⟨f.f.toArray⟩, .string ⟨f.t.toArray⟩, .slice A2 Q c2]] w
   fun e w' => ∃ q0, e = .returned (.agg #[.string ⟨f.f.toArray⟩, .string ⟨f.t.toArray⟩, .slice (some ⟨q0, 0, none⟩) Q (Q + 64)]) /\ w.heap.size <= q0 /\ Sl w' w'.heap.size 7 (some ⟨q0, 0, none⟩) (Q + 64) (cosC (whole mkC f.co)) /\ Below w.heap.size w w' := by
 have HC0 := Lib.hid (fun W (h : Below w.heap.size w W) => (wideCos_any f.co Q A2 c2 W hQ hQb ((h0.below h).more h.size)).mono (show ∀ e w', _ -> ∃ q, W.heap.size <= q /\ e = .returned (.slice (some ⟨q, 0, none⟩) Q (Q + 64)) /\ Sl w' w'.heap.size 7 (some ⟨q, 0, none⟩) (Q + 64) (cosC (whole mkC f.co)) /\ Below W.heap.size W w' from fun e w' h => ⟨_, Nat.le_refl _, h.1, h.2.1, h.2.2⟩))
 obtain ⟨g0, hg0⟩ : ∃ x, w.heap.size = x := ⟨_, rfl⟩
 obtain ⟨W1, hW1⟩ : ∃ W1, ((w.alloc (.cells #[.string ⟨f.f.toArray⟩, .string ⟨f.t.toArray⟩, .slice A2 Q c2] 84)).alloc (.cells #[.string ⟨#[]⟩, .string ⟨#[]⟩, .slice none 0 0] 84)) = W1 := ⟨_, rfl⟩
 have hb1 : Below w.heap.size w W1 := by rw [<- hW1]; exact bal (bal b0 _) _
 have k1 : Blk W1 g0 84 #[.string ⟨f.f.toArray⟩, .string ⟨f.t.toArray⟩, .slice A2 Q c2] := by rw [<- hW1, <- hg0]; exact (Blk.new w _ _).alloc _
 have k2 : Blk W1 (g0 + 1) 84 #[.string ⟨#[]⟩, .string ⟨#[]⟩, .slice none 0 0] := by
  rw [<- hW1, <- hg0]
  have := Blk.new (w.alloc (.cells #[.string ⟨f.f.toArray⟩, .string ⟨f.t.toArray⟩, .slice A2 Q c2] 84)) 84 #[.string ⟨#[]⟩, .string ⟨#[]⟩, .slice none 0 0]
  simpa only [World.size_alloc] using this
 have x0 : W1.cell? ⟨g0, 2, none⟩ = some (.slice A2 Q c2) := (k1.cell 2).trans rfl
 have HK0 := Lib.hid (show Below w.heap.size w W1 /\ Blk W1 g0 84 #[.string ⟨f.f.toArray⟩, .string ⟨f.t.toArray⟩, .slice A2 Q c2] /\ Blk W1 (g0 + 1) 84 #[.string ⟨#[]⟩, .string ⟨#[]⟩, .slice none 0 0] /\ w.heap.size = g0 from ⟨hb1, k1, k2, hg0⟩)
 clear h0 hQ hQb hb1 k1 k2 hg
 go_enter Tryz.func89, Tryz.ntmps89
 go_upto_region 1 with fail
 clear hW1 hg0
 go_wp2_with fail
 (refine (HC0.out _ HK0.out.1).mono ?_); rintro ev w2 ⟨q0, hq0, rfl, ho, hb⟩
 have k1 := HK0.out.2.1.below hb HK0.out.2.1.lt
 have x0' : w2.cell? ⟨g0, 2, none⟩ = some (.slice A2 Q c2) := (k1.cell 2).trans rfl
 have z0 := k1.frozen 2
 have hlt : g0 + 1 < W1.heap.size := HK0.out.2.2.1.lt
 have hbut := but_set (C := fun k => k = g0) (But.refl _ w2) (b := g0) (i := 2) rfl (.slice (some ⟨q0, 0, none⟩) Q (Q + 64))
 have HX := Lib.hid (show ∀ X, w2.setCell ⟨g0, 2, none⟩ (.slice (some ⟨q0, 0, none⟩) Q (Q + 64)) = X -> Below w.heap.size w X /\ Blk X g0 84 #[.string ⟨f.f.toArray⟩, .string ⟨f.t.toArray⟩, .slice (some ⟨q0, 0, none⟩) Q (Q + 64)] /\ Blk X (g0 + 1) 84 #[.string ⟨#[]⟩, .string ⟨#[]⟩, .slice none 0 0] /\ w.heap.size = g0 /\ g0 + 1 < X.heap.size /\ g0 + 1 < q0 /\ Wr X 7 (.slice (some ⟨q0, 0, none⟩) Q (Q + 64)) Q (g0 + 2) (cosC (whole mkC f.co)) from fun X hX => by
  rw [<- hX]
  refine ⟨below_set (bl HK0.out.1 hb) (by have := HK0.out.2.2.2; omega) _, k1.set_ 2 _, (HK0.out.2.2.1.below hb HK0.out.2.2.1.lt).far (p := ⟨g0, 2, none⟩) (show g0 + 1 ≠ g0 by omega) _, HK0.out.2.2.2, by have := hb.size; have := hbut.size; omega, by omega, Wr.but ⟨q0, by omega, rfl, ho⟩ hbut (fun k hk => by omega)⟩)
 clear k1 hlt hbut ho hb hq0 x0
 go_upto_region 2 with fail
 obtain ⟨W3, hW⟩ : ∃ X, w2.setCell ⟨g0, 2, none⟩ (.slice (some ⟨q0, 0, none⟩) Q (Q + 64)) = X := ⟨_, rfl⟩
 have HK1 := Lib.hid (HX.out _ hW)
 rw [hW]
 clear hW HX x0' z0
 have u0 : W3.cell? ⟨g0, 0, none⟩ = some (.string ⟨f.f.toArray⟩) := (HK1.out.2.1.cell 0).trans rfl
 have u1 : W3.cell? ⟨g0, 1, none⟩ = some (.string ⟨f.t.toArray⟩) := (HK1.out.2.1.cell 1).trans rfl
 have u2 : W3.cell? ⟨g0, 2, none⟩ = some (.slice (some ⟨q0, 0, none⟩) Q (Q + 64)) := (HK1.out.2.1.cell 2).trans rfl
 have k5 := HK1.out.2.2.1
 go_wp2_with (refine wpList_store_row rfl 84 (.tmp 2) (.tmp 7) rfl (g0 + 1) #[.string ⟨f.f.toArray⟩, .string ⟨f.t.toArray⟩, .slice (some ⟨q0, 0, none⟩) Q (Q + 64)] rfl rfl 84 _ k5 (by kernel_rfl) rfl (by kernel_rfl) ?_)
 (try simp only [Exit.inBlock, Exit.then])
 have hbut := but_setRow (C := fun k => k = g0 + 1) (But.refl _ W3) (.inl rfl) (#[.string ⟨f.f.toArray⟩, .string ⟨f.t.toArray⟩, .slice (some ⟨q0, 0, none⟩) Q (Q + 64)] : Array Value)
 refine bodyPost_ret (results_cell_row rfl _ _ (g0 + 1) 84 #[.string ⟨f.f.toArray⟩, .string ⟨f.t.toArray⟩, .slice (some ⟨q0, 0, none⟩) Q (Q + 64)] (0, 0) _ rfl (setRow_heap _ _ _ _ _ _ k5) Tryz.underlying84 rfl (by kernel_rfl)) rfl ⟨q0, rfl, by have := HK1.out.2.2.2.1; have := HK1.out.2.2.2.2.2.1; omega, ?_, ?_⟩
 ·
  obtain ⟨b, _, e, s⟩ := Wr.but HK1.out.2.2.2.2.2.2 hbut (fun k hk => by omega)
  injection e with e; injection e with e; injection e with e; subst e; exact s
 · exact below_setRow HK1.out.1 (by have := HK1.out.2.2.2.1; omega) _
set_option maxRecDepth 100000 in
set_option maxHeartbeats 2000000 in
theorem wideFunctions_c (l : List FuL) (N : Nat) (A : Option Addr) (c : Nat) (w : World) (hN : l.length = N) (hl : N <= 16777216) (hg : Gl w) (hA : Sl w w.heap.size 4 A N (l.flatMap FuL.cells))
  (h1 : ∀ g ∈ l, Rs w 1 g.ev g.f.env.length (envC g.f.env)) (b1 : ∀ g ∈ l, g.f.env.length <= 16777216)
  (h2 : ∀ g ∈ l, Rs w 3 g.cv g.f.code.length (codC g.f.code)) (b2 : ∀ g ∈ l, g.f.code.length <= 16777216) :
  Calls Tryz.prog 27 #[.slice A N c] w fun e w' => e = .returned (.slice (some ⟨w.heap.size, 0, none⟩) N (N + 64)) /\ (∃ D : List FuL, D.map (·.f) = l.map (·.f) /\ (∀ g ∈ D, WfF w' (w.heap.size + 1) g) /\ Sl w' w'.heap.size 4 (some ⟨w.heap.size, 0, none⟩) (N + 64) ((whole mkF D).flatMap FuL.cells)) /\ Below w.heap.size w w' := by
 obtain ⟨i0, hi0, hz0, hz1, hz2⟩ := info_parts infoF
 have hmk := fun W => make64 (P := Tryz.prog) 22 90 i0 (.agg #[.slice none 0 0, .string ⟨#[]⟩, .string ⟨#[]⟩, .slice none 0 0]) Tryz.underlying22 hi0 hz0 N (by rw [hz2]; omega) (by omega) W
 rw [hz1] at hmk
 obtain ⟨C, hC⟩ : ∃ C, madeCells (Value.cells (.agg #[.slice none 0 0, .string ⟨#[]⟩, .string ⟨#[]⟩, .slice none 0 0])) ((N + 64) * 4) = C := ⟨_, rfl⟩
 rw [hC] at hmk
 have hCs : C.size = (N + 64) * 4 := by rw [<- hC]; exact size_madeCells _ _
 have HC := Lib.hid hCs
 have HA := Lib.hid (And.intro hA hN)
 have HG := Lib.hid hg
 have HN4 := Lib.hid (show (∀ g ∈ l, Rs w 1 g.ev g.f.env.length (envC g.f.env)) /\ (∀ g ∈ l, g.f.env.length <= 16777216) /\ (∀ g ∈ l, Rs w 3 g.cv g.f.code.length (codC g.f.code)) /\ (∀ g ∈ l, g.f.code.length <= 16777216) from ⟨h1, b1, h2, b2⟩)
 obtain ⟨g0, hg0⟩ : ∃ x, w.heap.size = x := ⟨_, rfl⟩
 have HG0 := Lib.hid hg0
 clear hC hCs hA hN hg hg0 h1 b1 h2 b2
 go_enter Tryz.func27, Tryz.ntmps27
 go_wp2_with fail
 clear hmk
 go_loopg [4] (N + 64) (fun gg i wr => ∃ k : Nat, k <= N + 64 /\ gg = N + 64 - k /\ i = .int .i64 k /\ Below w.heap.size w wr /\
  ∃ f, wr.rowIs w.heap.size 90 ((N + 64) * 4) f /\ ∃ D X : List FuL, Hid (D.length = min k N /\ X = D ++ marks mkF N k /\ X.length = k /\ D.map (·.f) = (l.take k).map (·.f) /\ (∀ g ∈ D, WfF wr (w.heap.size + 1) g) /\ ∀ j, j < k * 4 -> f j = (X.flatMap FuL.cells).getD j default))
 case atStart =>
  refine ⟨0, by omega, rfl, rfl, bal (Below.refl _ _) _, fun j => C.getD j default, ?_, [], [], Lib.hid ⟨by simp, by rw [marks_lt (by omega)]; rfl, rfl, by simp, (fun g hg => by cases hg), fun j hj => by omega⟩⟩
  rw [<- HC.out]
  exact World.rowIs_alloc _ _ _ _ fun i hi => by simp [hi]
 case round =>
  obtain ⟨k, hk, rfl, rfl, hb, f, hf, D, X, HX⟩ := hrel
  by_cases h1 : k < N + 64
  ·
   by_cases h2 : k < N
   ·
    obtain ⟨x, hx⟩ : ∃ x, l[k]? = some x := ⟨_, List.getElem?_eq_getElem (by rw [HA.out.2]; exact h2)⟩
    obtain ⟨b, o, rfl, hb1, hc1⟩ := (HA.out.1.below hb).at_ (by omega)
    have hm := List.mem_of_getElem? hx
    have kc : ∀ j v, (FuL.cells x)[j]? = some v -> j < 4 -> wr.cell? ⟨b, o + k * 4 + j, none⟩ = some v := fun j v hv hj => by
     rw [Nat.add_assoc]
     exact hc1 _ _ (by rw [flat_at FuL.cells 4 (fun _ => rfl) _ _ _ _ hx hj]; exact hv)
    obtain ⟨A1, c1, ev0, hc0a, hd0, s0⟩ := (HN4.out.1 x hm).sl
    obtain ⟨A2, c2, ev1, hc1a, hd1, s1⟩ := (HN4.out.2.2.1 x hm).sl
    obtain ⟨M, hM⟩ : ∃ n, x.f.env.length = n := ⟨_, rfl⟩
    have hMb : M <= 16777216 := by rw [<- hM]; exact HN4.out.2.1 x hm
    rw [hM] at ev0 s0
    obtain ⟨Q, hQ⟩ : ∃ n, x.f.code.length = n := ⟨_, rfl⟩
    have hQb : Q <= 16777216 := by rw [<- hQ]; exact HN4.out.2.2.2 x hm
    rw [hQ] at ev1 s1
    have HCALL := Lib.hid (wideFunction_c x.f M Q A1 A2 c1 c2 wr hM hMb hQ hQb (HG.out.on hb) ((s0.below hb).more hb.size) ((s1.below hb).more hb.size))
    have HMQ := Lib.hid (show x.f.env.length = M /\ x.f.code.length = Q from ⟨hM, hQ⟩)
    have t0 : wr.cell? ⟨b, o + k * 4, none⟩ = some (.slice A1 M c1) := kc 0 _ (by show some x.ev = _; rw [ev0]) (by decide)
    have t1 : wr.cell? ⟨b, o + k * 4 + 1, none⟩ = some (.string ⟨x.f.param.toArray⟩) := kc 1 _ rfl (by decide)
    have t2 : wr.cell? ⟨b, o + k * 4 + 2, none⟩ = some (.string ⟨x.f.res.toArray⟩) := kc 2 _ rfl (by decide)
    have t3 : wr.cell? ⟨b, o + k * 4 + 3, none⟩ = some (.slice A2 Q c2) := kc 3 _ (by show some x.cv = _; rw [ev1]) (by decide)
    have HTK := Lib.hid (show (l.take (k + 1)).map (·.f) = (l.take k).map (·.f) ++ [x.f] by rw [List.take_add_one, hx]; simp)
    clear hx hb1 hc1 kc hm ev0 s0 hM hc0a hd0 hMb ev1 s1 hQ hc1a hd1 hQb
    go_wp2_with fail
    (refine HCALL.out.mono ?_); rintro ev w2 ⟨q0, q1, rfl, hq0, hq1, hs0, hs1, hb2⟩
    have hf2 := hf.of_block (hb2.block _ hf.lt)
    have HW2 := Lib.hid (show WfF w2 (w.heap.size + 1) (⟨.slice (some ⟨q0, 0, none⟩) M (M + 64), x.f, .slice (some ⟨q1, 0, none⟩) Q (Q + 64)⟩ : FuL) from ⟨⟨q0, by have := hf.lt; have := HMQ.out; omega, by rw [HMQ.out.1], by rw [HMQ.out.1]; exact hs0⟩, ⟨q1, by have := hf.lt; have := HMQ.out; omega, by rw [HMQ.out.2], by rw [HMQ.out.2]; exact hs1⟩⟩)
    have HB2 := Lib.hid hb2
    clear hb2 hf hq0 hs0 hq1 hs1
    have hth : w2.there w.heap.size (k * 4) (FuL.cells (⟨.slice (some ⟨q0, 0, none⟩) M (M + 64), x.f, .slice (some ⟨q1, 0, none⟩) Q (Q + 64)⟩ : FuL)).toArray.size := row_there hf2 (k * 4) 4 (by omega)
    have hon := all_oneCell_toArray (show ∀ v ∈ (FuL.cells (⟨.slice (some ⟨q0, 0, none⟩) M (M + 64), x.f, .slice (some ⟨q1, 0, none⟩) Q (Q + 64)⟩ : FuL)), v.oneCell' = true by intro u hu; simp only [FuL.cells, List.mem_cons, List.not_mem_nil, or_false] at hu; rcases hu with rfl | rfl | rfl | rfl <;> rfl)
    have hin : (Tryz.prog.info? 90).map (·.size) = some (FuL.cells (⟨.slice (some ⟨q0, 0, none⟩) M (M + 64), x.f, .slice (some ⟨q1, 0, none⟩) Q (Q + 64)⟩ : FuL)).toArray.size := hin4
    go_wp2_with (with_reducible refine wpList_store_mid rfl 90 (.tmp 26) (.tmp 25) rfl w.heap.size (k * 4) (FuL.cells (⟨.slice (some ⟨q0, 0, none⟩) M (M + 64), x.f, .slice (some ⟨q1, 0, none⟩) Q (Q + 64)⟩ : FuL)).toArray ?_ ?_ hth hin hon ?_)
    · rfl
    · rfl
    go_roundg (N + 64 - (k + 1))
    case measure => omega
    case rel =>
     refine ⟨k + 1, by omega, rfl, by go_num, below_cells (Nat.le_refl _) _ _ _ (bl hb HB2.out), _, _root_.Go.rowIs_setCells _ _ _ _ hf2, D ++ [⟨.slice (some ⟨q0, 0, none⟩) M (M + 64), x.f, .slice (some ⟨q1, 0, none⟩) Q (Q + 64)⟩], X ++ [⟨.slice (some ⟨q0, 0, none⟩) M (M + 64), x.f, .slice (some ⟨q1, 0, none⟩) Q (Q + 64)⟩], Lib.hid ⟨?_, ?_, ?_, ?_, ?_, ?_⟩⟩
     · rw [List.length_append, HX.out.1, List.length_singleton]; omega
     · rw [HX.out.2.1, marks_lt (by omega), marks_lt (by omega), List.append_nil, List.append_nil]
     · rw [List.length_append, HX.out.2.2.1]; rfl
     · rw [HTK.out, List.map_append, HX.out.2.2.2.1]; rfl
     ·
      intro g hg
      have hbut : But (fun q => q = w.heap.size) w2 (w2.setCells w.heap.size (k * 4) (FuL.cells (⟨.slice (some ⟨q0, 0, none⟩) M (M + 64), x.f, .slice (some ⟨q1, 0, none⟩) Q (Q + 64)⟩ : FuL))) := but_cells (C := fun q => q = w.heap.size) (But.refl _ _) rfl _ _
      rcases List.mem_append.1 hg with hg | hg
      · exact ((HX.out.2.2.2.2.1 g hg).grow HB2.out).but hbut (fun q hq => by omega)
      · rw [List.mem_singleton.1 hg]; exact HW2.out.but hbut (fun q hq => by omega)
     · exact row_app (s := ⟨.slice (some ⟨q0, 0, none⟩) M (M + 64), x.f, .slice (some ⟨q1, 0, none⟩) Q (Q + 64)⟩) fu4 HX.out.2.2.1 HX.out.2.2.2.2.2
   ·
    have hcall := Lib.hid (T.text_any k w wr (by omega) HG.out.tab hb)
    have HV := Lib.hid (show mkF k = (⟨.slice none 0 0, ⟨[], (T.tmark k).data.toList, [], []⟩, .slice none 0 0⟩ : FuL) from rfl)
    generalize T.tmark k = m at HV hcall
    go_wp2_with fail
    (refine hcall.out.mono ?_); rintro ev w2 ⟨rfl, hb2⟩
    have hf2 := hf.of_block (hb2.block _ hf.lt)
    have HB2 := Lib.hid hb2
    clear hb2 hf
    have hth : w2.there w.heap.size (k * 4) (FuL.cells (⟨.slice none 0 0, ⟨[], m.data.toList, [], []⟩, .slice none 0 0⟩ : FuL)).toArray.size := row_there hf2 (k * 4) 4 (by omega)
    have hon := all_oneCell_toArray (show ∀ v ∈ (FuL.cells (⟨.slice none 0 0, ⟨[], m.data.toList, [], []⟩, .slice none 0 0⟩ : FuL)), v.oneCell' = true by intro u hu; simp only [FuL.cells, List.mem_cons, List.not_mem_nil, or_false] at hu; rcases hu with rfl | rfl | rfl | rfl <;> rfl)
    have hin : (Tryz.prog.info? 90).map (·.size) = some (FuL.cells (⟨.slice none 0 0, ⟨[], m.data.toList, [], []⟩, .slice none 0 0⟩ : FuL)).toArray.size := hin4
    go_wp2_with (with_reducible refine wpList_store_mid rfl 90 (.tmp 32) (.tmp 31) rfl w.heap.size (k * 4) (FuL.cells (⟨.slice none 0 0, ⟨[], m.data.toList, [], []⟩, .slice none 0 0⟩ : FuL)).toArray ?_ ?_ hth hin hon ?_)
    · rfl
    · rfl
    go_roundg (N + 64 - (k + 1))
    case measure => omega
    case rel =>
     refine ⟨k + 1, by omega, rfl, by go_num, below_cells (Nat.le_refl _) _ _ _ (bl hb HB2.out), _, _root_.Go.rowIs_setCells _ _ _ _ hf2, D, X ++ [mkF k], Lib.hid ⟨?_, ?_, ?_, ?_, ?_, ?_⟩⟩
     · rw [HX.out.1]; omega
     · rw [HX.out.2.1, marks_succ (by omega), List.append_assoc]
     · rw [List.length_append, HX.out.2.2.1]; rfl
     · rw [HX.out.2.2.2.1, List.take_of_length_le (by rw [HA.out.2]; omega), List.take_of_length_le (by rw [HA.out.2]; omega)]
     ·
      intro g hg
      have hbut : But (fun q => q = w.heap.size) w2 (w2.setCells w.heap.size (k * 4) (FuL.cells (⟨.slice none 0 0, ⟨[], m.data.toList, [], []⟩, .slice none 0 0⟩ : FuL))) := but_cells (C := fun q => q = w.heap.size) (But.refl _ _) rfl _ _
      exact ((HX.out.2.2.2.2.1 g hg).grow HB2.out).but hbut (fun q hq => by omega)
     · have h0 := row_app (s := mkF k) fu4 HX.out.2.2.1 HX.out.2.2.2.2.2; rw [HV.out] at h0 ⊢; exact h0
  ·
   go_wp2_with fail
   go_ret
   obtain rfl : k = N + 64 := by omega
   have hD : D.length = N := by rw [HX.out.1]; omega
   have hX : X = whole mkF D := by rw [HX.out.2.1, marks_whole hD]
   refine ⟨rfl, ⟨D, by rw [HX.out.2.2.2.1, List.take_of_length_le (by rw [HA.out.2]; omega)], HX.out.2.2.2.2.1, ?_⟩, hb⟩
   have h0 := HX.out.2.2.2.2.2
   rw [hX] at h0
   exact row_sl hf (by rw [flatL FuL.cells 4 fu4, whole_len, hD]) (Nat.le_refl _) h0
set_option maxRecDepth 100000 in
set_option maxHeartbeats 2000000 in
theorem wideWaits_c (l : List WtL) (N : Nat) (A : Option Addr) (c : Nat) (w : World) (hN : l.length = N) (hl : N <= 16777216) (hg : Gl w) (hA : Sl w w.heap.size 3 A N (l.flatMap WtL.cells))
  (h1 : ∀ g ∈ l, Rs w 7 g.cv g.w.co.length (cosC g.w.co)) (b1 : ∀ g ∈ l, g.w.co.length <= 16777216) :
  Calls Tryz.prog 28 #[.slice A N c] w fun e w' => e = .returned (.slice (some ⟨w.heap.size, 0, none⟩) N (N + 64)) /\ (∃ D : List WtL, D.map (·.w) = l.map (·.w) /\ (∀ g ∈ D, WfW w' (w.heap.size + 1) g) /\ Sl w' w'.heap.size 3 (some ⟨w.heap.size, 0, none⟩) (N + 64) ((whole mkW D).flatMap WtL.cells)) /\ Below w.heap.size w w' := by
 obtain ⟨i0, hi0, hz0, hz1, hz2⟩ := info_parts infoW
 have hmk := fun W => make64 (P := Tryz.prog) 23 84 i0 (.agg #[.string ⟨#[]⟩, .string ⟨#[]⟩, .slice none 0 0]) Tryz.underlying23 hi0 hz0 N (by rw [hz2]; omega) (by omega) W
 rw [hz1] at hmk
 obtain ⟨C, hC⟩ : ∃ C, madeCells (Value.cells (.agg #[.string ⟨#[]⟩, .string ⟨#[]⟩, .slice none 0 0])) ((N + 64) * 3) = C := ⟨_, rfl⟩
 rw [hC] at hmk
 have hCs : C.size = (N + 64) * 3 := by rw [<- hC]; exact size_madeCells _ _
 have HC := Lib.hid hCs
 have HA := Lib.hid (And.intro hA hN)
 have HG := Lib.hid hg
 have HN4 := Lib.hid (show (∀ g ∈ l, Rs w 7 g.cv g.w.co.length (cosC g.w.co)) /\ (∀ g ∈ l, g.w.co.length <= 16777216) from ⟨h1, b1⟩)
 obtain ⟨g0, hg0⟩ : ∃ x, w.heap.size = x := ⟨_, rfl⟩
 have HG0 := Lib.hid hg0
 clear hC hCs hA hN hg hg0 h1 b1
 go_enter Tryz.func28, Tryz.ntmps28
 go_wp2_with fail
 clear hmk
 go_loopg [4] (N + 64) (fun gg i wr => ∃ k : Nat, k <= N + 64 /\ gg = N + 64 - k /\ i = .int .i64 k /\ Below w.heap.size w wr /\
  ∃ f, wr.rowIs w.heap.size 84 ((N + 64) * 3) f /\ ∃ D X : List WtL, Hid (D.length = min k N /\ X = D ++ marks mkW N k /\ X.length = k /\ D.map (·.w) = (l.take k).map (·.w) /\ (∀ g ∈ D, WfW wr (w.heap.size + 1) g) /\ ∀ j, j < k * 3 -> f j = (X.flatMap WtL.cells).getD j default))
 case atStart =>
  refine ⟨0, by omega, rfl, rfl, bal (Below.refl _ _) _, fun j => C.getD j default, ?_, [], [], Lib.hid ⟨by simp, by rw [marks_lt (by omega)]; rfl, rfl, by simp, (fun g hg => by cases hg), fun j hj => by omega⟩⟩
  rw [<- HC.out]
  exact World.rowIs_alloc _ _ _ _ fun i hi => by simp [hi]
 case round =>
  obtain ⟨k, hk, rfl, rfl, hb, f, hf, D, X, HX⟩ := hrel
  by_cases h1 : k < N + 64
  ·
   by_cases h2 : k < N
   ·
    obtain ⟨x, hx⟩ : ∃ x, l[k]? = some x := ⟨_, List.getElem?_eq_getElem (by rw [HA.out.2]; exact h2)⟩
    obtain ⟨b, o, rfl, hb1, hc1⟩ := (HA.out.1.below hb).at_ (by omega)
    have hm := List.mem_of_getElem? hx
    have kc : ∀ j v, (WtL.cells x)[j]? = some v -> j < 3 -> wr.cell? ⟨b, o + k * 3 + j, none⟩ = some v := fun j v hv hj => by
     rw [Nat.add_assoc]
     exact hc1 _ _ (by rw [flat_at WtL.cells 3 (fun _ => rfl) _ _ _ _ hx hj]; exact hv)
    obtain ⟨A2, c2, ev0, hc0a, hd0, s0⟩ := (HN4.out.1 x hm).sl
    obtain ⟨Q, hQ⟩ : ∃ n, x.w.co.length = n := ⟨_, rfl⟩
    have hQb : Q <= 16777216 := by rw [<- hQ]; exact HN4.out.2 x hm
    rw [hQ] at ev0 s0
    have HCALL := Lib.hid (wideWait_c x.w Q A2 c2 wr hQ hQb (HG.out.on hb) ((s0.below hb).more hb.size))
    have HMQ := Lib.hid hQ
    have t0 : wr.cell? ⟨b, o + k * 3, none⟩ = some (.string ⟨x.w.f.toArray⟩) := kc 0 _ rfl (by decide)
    have t1 : wr.cell? ⟨b, o + k * 3 + 1, none⟩ = some (.string ⟨x.w.t.toArray⟩) := kc 1 _ rfl (by decide)
    have t2 : wr.cell? ⟨b, o + k * 3 + 2, none⟩ = some (.slice A2 Q c2) := kc 2 _ (by show some x.cv = _; rw [ev0]) (by decide)
    have HTK := Lib.hid (show (l.take (k + 1)).map (·.w) = (l.take k).map (·.w) ++ [x.w] by rw [List.take_add_one, hx]; simp)
    clear hx hb1 hc1 kc hm ev0 s0 hQ hc0a hd0 hQb
    go_wp2_with fail
    (refine HCALL.out.mono ?_); rintro ev w2 ⟨q0, rfl, hq0, hs0, hb2⟩
    have hf2 := hf.of_block (hb2.block _ hf.lt)
    have HW2 := Lib.hid (show WfW w2 (w.heap.size + 1) (⟨x.w, .slice (some ⟨q0, 0, none⟩) Q (Q + 64)⟩ : WtL) from ⟨q0, by have := hf.lt; have := HMQ.out; omega, by rw [HMQ.out], by rw [HMQ.out]; exact hs0⟩)
    have HB2 := Lib.hid hb2
    clear hb2 hf hq0 hs0
    have hth : w2.there w.heap.size (k * 3) (WtL.cells (⟨x.w, .slice (some ⟨q0, 0, none⟩) Q (Q + 64)⟩ : WtL)).toArray.size := row_there hf2 (k * 3) 3 (by omega)
    have hon := all_oneCell_toArray (show ∀ v ∈ (WtL.cells (⟨x.w, .slice (some ⟨q0, 0, none⟩) Q (Q + 64)⟩ : WtL)), v.oneCell' = true by intro u hu; simp only [WtL.cells, List.mem_cons, List.not_mem_nil, or_false] at hu; rcases hu with rfl | rfl | rfl <;> rfl)
    have hin : (Tryz.prog.info? 84).map (·.size) = some (WtL.cells (⟨x.w, .slice (some ⟨q0, 0, none⟩) Q (Q + 64)⟩ : WtL)).toArray.size := hin3w
    go_wp2_with (with_reducible refine wpList_store_mid rfl 84 (.tmp 26) (.tmp 25) rfl w.heap.size (k * 3) (WtL.cells (⟨x.w, .slice (some ⟨q0, 0, none⟩) Q (Q + 64)⟩ : WtL)).toArray ?_ ?_ hth hin hon ?_)
    · rfl
    · rfl
    go_roundg (N + 64 - (k + 1))
    case measure => omega
    case rel =>
     refine ⟨k + 1, by omega, rfl, by go_num, below_cells (Nat.le_refl _) _ _ _ (bl hb HB2.out), _, _root_.Go.rowIs_setCells _ _ _ _ hf2, D ++ [⟨x.w, .slice (some ⟨q0, 0, none⟩) Q (Q + 64)⟩], X ++ [⟨x.w, .slice (some ⟨q0, 0, none⟩) Q (Q + 64)⟩], Lib.hid ⟨?_, ?_, ?_, ?_, ?_, ?_⟩⟩
     · rw [List.length_append, HX.out.1, List.length_singleton]; omega
     · rw [HX.out.2.1, marks_lt (by omega), marks_lt (by omega), List.append_nil, List.append_nil]
     · rw [List.length_append, HX.out.2.2.1]; rfl
     · rw [HTK.out, List.map_append, HX.out.2.2.2.1]; rfl
     ·
      intro g hg
      have hbut : But (fun q => q = w.heap.size) w2 (w2.setCells w.heap.size (k * 3) (WtL.cells (⟨x.w, .slice (some ⟨q0, 0, none⟩) Q (Q + 64)⟩ : WtL))) := but_cells (C := fun q => q = w.heap.size) (But.refl _ _) rfl _ _
      rcases List.mem_append.1 hg with hg | hg
      · exact ((HX.out.2.2.2.2.1 g hg).grow HB2.out).but hbut (fun q hq => by omega)
      · rw [List.mem_singleton.1 hg]; exact HW2.out.but hbut (fun q hq => by omega)
     · exact row_app (s := ⟨x.w, .slice (some ⟨q0, 0, none⟩) Q (Q + 64)⟩) wt3 HX.out.2.2.1 HX.out.2.2.2.2.2
   ·
    have hcall := Lib.hid (T.text_any k w wr (by omega) HG.out.tab hb)
    have HV := Lib.hid (show mkW k = (⟨⟨(T.tmark k).data.toList, [], []⟩, .slice none 0 0⟩ : WtL) from rfl)
    generalize T.tmark k = m at HV hcall
    go_wp2_with fail
    (refine hcall.out.mono ?_); rintro ev w2 ⟨rfl, hb2⟩
    have hf2 := hf.of_block (hb2.block _ hf.lt)
    have HB2 := Lib.hid hb2
    clear hb2 hf
    have hth : w2.there w.heap.size (k * 3) (WtL.cells (⟨⟨m.data.toList, [], []⟩, .slice none 0 0⟩ : WtL)).toArray.size := row_there hf2 (k * 3) 3 (by omega)
    have hon := all_oneCell_toArray (show ∀ v ∈ (WtL.cells (⟨⟨m.data.toList, [], []⟩, .slice none 0 0⟩ : WtL)), v.oneCell' = true by intro u hu; simp only [WtL.cells, List.mem_cons, List.not_mem_nil, or_false] at hu; rcases hu with rfl | rfl | rfl <;> rfl)
    have hin : (Tryz.prog.info? 84).map (·.size) = some (WtL.cells (⟨⟨m.data.toList, [], []⟩, .slice none 0 0⟩ : WtL)).toArray.size := hin3w
    go_wp2_with (with_reducible refine wpList_store_mid rfl 84 (.tmp 32) (.tmp 31) rfl w.heap.size (k * 3) (WtL.cells (⟨⟨m.data.toList, [], []⟩, .slice none 0 0⟩ : WtL)).toArray ?_ ?_ hth hin hon ?_)
    · rfl
    · rfl
    go_roundg (N + 64 - (k + 1))
    case measure => omega
    case rel =>
     refine ⟨k + 1, by omega, rfl, by go_num, below_cells (Nat.le_refl _) _ _ _ (bl hb HB2.out), _, _root_.Go.rowIs_setCells _ _ _ _ hf2, D, X ++ [mkW k], Lib.hid ⟨?_, ?_, ?_, ?_, ?_, ?_⟩⟩
     · rw [HX.out.1]; omega
     · rw [HX.out.2.1, marks_succ (by omega), List.append_assoc]
     · rw [List.length_append, HX.out.2.2.1]; rfl
     · rw [HX.out.2.2.2.1, List.take_of_length_le (by rw [HA.out.2]; omega), List.take_of_length_le (by rw [HA.out.2]; omega)]
     ·
      intro g hg
      have hbut : But (fun q => q = w.heap.size) w2 (w2.setCells w.heap.size (k * 3) (WtL.cells (⟨⟨m.data.toList, [], []⟩, .slice none 0 0⟩ : WtL))) := but_cells (C := fun q => q = w.heap.size) (But.refl _ _) rfl _ _
      exact ((HX.out.2.2.2.2.1 g hg).grow HB2.out).but hbut (fun q hq => by omega)
     · have h0 := row_app (s := mkW k) wt3 HX.out.2.2.1 HX.out.2.2.2.2.2; rw [HV.out] at h0 ⊢; exact h0
  ·
   go_wp2_with fail
   go_ret
   obtain rfl : k = N + 64 := by omega
   have hD : D.length = N := by rw [HX.out.1]; omega
   have hX : X = whole mkW D := by rw [HX.out.2.1, marks_whole hD]
   refine ⟨rfl, ⟨D, by rw [HX.out.2.2.2.1, List.take_of_length_le (by rw [HA.out.2]; omega)], HX.out.2.2.2.2.1, ?_⟩, hb⟩
   have h0 := HX.out.2.2.2.2.2
   rw [hX] at h0
   exact row_sl hf (by rw [flatL WtL.cells 3 wt3, whole_len, hD]) (Nat.le_refl _) h0
end Go.Proofs.YtobplngonkdbpaaGreatDoor.D
