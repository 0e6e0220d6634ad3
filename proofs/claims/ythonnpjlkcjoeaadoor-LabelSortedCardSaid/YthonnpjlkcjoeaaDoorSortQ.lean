/- Contracts: the comparison of placed sites. -/
import Derived.Test.YthonnpjlkcjoeaaDoorSortP
import Derived.Test.YthonnpjlkcjoeaaDoorSortL
import Derived.Test.YthonnpjlkcjoeaaDoorShelf
import Derived.Deep.RegionHeld3
import Derived.Deep.LoopGhost
import Derived.Lib.Hide
namespace Go.Proofs.YthonnpjlkcjoeaaDoor.La
open Go.RowKit Go.Proofs.YthonnpjlkcjoeaaDoor.B Go.Op Go.Lib
open Go.Sort (grow grow_empty grow_grow alloc_eq_grow)
set_option linter.unusedSimpArgs false
set_option linter.unusedVariables false

/-- w' is w, behind draws and new blocks. -/
def Gr (w w' : World) : Prop := ∃ q os, w' = grow (w.drewN q) os
theorem Gr.refl (w : World) : Gr w w := ⟨0, #[], by rw [grow_empty]; rfl⟩
theorem Gr.alloc {w w' : World} (h : Gr w w') (o : Obj) : Gr w (w'.alloc o) := by
  obtain ⟨q, os, rfl⟩ := h
  exact ⟨q, os ++ #[o], by rw [alloc_eq_grow, grow_grow]⟩
theorem Gr.drewN {w w' : World} (h : Gr w w') (n : Nat) : Gr w (w'.drewN n) := by
  obtain ⟨q, os, rfl⟩ := h
  refine ⟨q + n, os, ?_⟩
  rw [← World.drewN_drewN]; rfl
theorem Gr.drew {w w' : World} (h : Gr w w') : Gr w w'.drew := h.drewN 1
theorem Gr.trans {a b c : World} (h : Gr a b) (k : Gr b c) : Gr a c := by
  obtain ⟨q, os, rfl⟩ := k
  obtain ⟨p, os', hp⟩ := h.drewN q
  exact ⟨p, os' ++ os, by rw [hp, grow_grow]⟩

theorem Gr.below {w w' : World} (h : Gr w w') : Below w.heap.size w w' := by
  obtain ⟨q, os, rfl⟩ := h
  refine ⟨rfl, rfl, rfl, by simp [grow, World.drewN], fun k hk => ?_⟩
  show (w.heap ++ os)[k]? = w.heap[k]?
  rw [Array.getElem?_append_left hk]
theorem Gr.also {a b c : World} (h : Gr a b) (hb : Below a.heap.size a b) (k : Gr b c) : Gr a c ∧ Below a.heap.size a c := ⟨h.trans k, bl hb k.below⟩

def cmpS (a b : ByteArray) : Int := if bytesLess a.toList b.toList = true then -1 else if (bytesLess a.toList b.toList || a.toList == b.toList) = true then 0 else 1
def orI : List Int → Int
  | [] => 0
  | c :: l => if c = 0 then orI l else c
def cmpP (a b : Site × Int) : Int := orI [cmpS a.1.mo b.1.mo, Lib.compareInt a.1.li b.1.li, Lib.compareInt a.1.co b.1.co, Lib.compareInt a.1.ru b.1.ru, Lib.compareInt a.2 b.2]
def encP (x : Site × Int) : List Value := [.string x.1.mo, .string x.1.ex, .int .i64 x.1.li, .int .i64 x.1.co, .int .i64 x.1.ru, .int .i64 x.2]

theorem nanS_any (x : ByteArray) (w : World) : Calls Tryd.prog 144 #[.string x] w fun e w' => e = .returned (.bool false) ∧ w' = w := by
  have h : (x.toList != x.toList) = false := by simp
  go_enter Tryd.func144, Tryd.ntmps144
  go_wp2_with fail
  go_ret
  exact ⟨rfl, rfl⟩
theorem cmpS_any (x y : ByteArray) (w : World) : Calls Tryd.prog 120 #[.string x, .string y] w fun e w' => e = .returned (.int .i64 (cmpS x y)) ∧ w' = w := by
  have h := fun z W => nanS_any z W
  unfold cmpS
  obtain ⟨l, hl⟩ : ∃ l, bytesLess x.toList y.toList = l := ⟨_, rfl⟩
  obtain ⟨q, hq⟩ : ∃ q, (x.toList == y.toList) = q := ⟨_, rfl⟩
  rw [hl, hq]
  have g1 : ∀ W, (binOp .gtr 9 (.string x) (.string y)).run Tryd.prog W = .ok (.bool !(l || q)) W := fun W => by
    simp [binOp, underlying, Tryd.underlying9, Op.stringOp, hl, hq, Result.andThen]
  clear hq
  cases l <;> cases q
  all_goals
    go_enter Tryd.func120, Tryd.ntmps120
    go_wp2_with fail
    refine (h x _).mono ?_
    rintro e w' ⟨rfl, rfl⟩
    go_wp2_with fail
    refine (h y _).mono ?_
    rintro e w' ⟨rfl, rfl⟩
    go_wp2_with fail
    go_ret
    exact ⟨rfl, rfl⟩

theorem orI_drop {l : List Int} {k : Nat} {c : Int} (h : l[k]? = some c) : orI (l.drop k) = if c = 0 then orI (l.drop (k + 1)) else c := by
  obtain ⟨h1, h2⟩ := List.getElem?_eq_some_iff.1 h
  rw [List.drop_eq_getElem_cons h1, h2]; rfl
theorem or_any (l : List Int) (g : Nat) (w : World) (hl : l.length ≤ 1024) (hc : ∀ k c, l[k]? = some c → w.cell? ⟨g, k, none⟩ = some (.int .i64 c)) :
    Calls Tryd.prog 119 #[.slice (some ⟨g, 0, none⟩) l.length l.length] w fun e w' => e = .returned (.int .i64 (orI l)) ∧ Gr w w' := by
  have HC := Lib.hid hc
  clear hc
  go_enter Tryd.func119, Tryd.ntmps119
  go_wp2_with fail
  go_loopg [8] l.length (fun q i wr => ∃ k : Nat, k ≤ l.length ∧ q = l.length - k ∧ i = .int .i64 k ∧ w = wr ∧ Hid (orI l = orI (l.drop k)))
  case atStart => exact ⟨0, by omega, rfl, rfl, rfl, Lib.hid rfl⟩
  case round =>
    obtain ⟨k, hk, rfl, rfl, rfl, HO⟩ := hrel
    by_cases hlt : k < l.length
    · obtain ⟨c, hc⟩ : ∃ c, l[k]? = some c := ⟨_, List.getElem?_eq_getElem hlt⟩
      have h1 := HC.out k c hc
      have h2 := orI_drop hc
      by_cases h0 : c = 0
      · subst h0
        rw [if_pos rfl, ← HO.out] at h2
        have HO2 := Lib.hid h2
        clear h2 hc
        go_wp2_with fail
        go_roundg (l.length - (k + 1))
        case measure => omega
        case rel => exact ⟨k + 1, by omega, rfl, by go_num, rfl, HO2⟩
      · rw [if_neg h0, ← HO.out] at h2
        have HO2 := Lib.hid h2
        have t1 : (c != 0) = true := by simpa using h0
        clear h2 hc
        go_wp2_with fail
        go_ret
        exact ⟨by rw [HO2.out]; rfl, Gr.refl _⟩
    · have h2 : orI l = 0 := by rw [HO.out, List.drop_eq_nil_of_le (by omega)]; rfl
      have HO2 := Lib.hid h2
      clear h2 HO
      go_wp2_with fail
      go_ret
      exact ⟨by rw [HO2.out]; rfl, Gr.refl _⟩

set_option maxRecDepth 100000 in
set_option maxHeartbeats 4000000 in
theorem compare_any (x y : Site × Int) (w : World) :
    Calls Tryd.prog 89 #[.agg #[.string x.1.mo, .string x.1.ex, .int .i64 x.1.li, .int .i64 x.1.co, .int .i64 x.1.ru, .int .i64 x.2], .agg #[.string y.1.mo, .string y.1.ex, .int .i64 y.1.li, .int .i64 y.1.co, .int .i64 y.1.ru, .int .i64 y.2]] w
      fun e w' => e = .returned (.int .i64 (cmpP x y)) ∧ Gr w w' := by
  obtain ⟨⟨mo, ex, li, co, ru⟩, lb⟩ := x
  obtain ⟨⟨mo', ex', li', co', ru'⟩, lb'⟩ := y
  have h1 := fun W => cmpS_any mo mo' W
  have h2 := fun W => Tryd.cmp_Compare_int li li' W
  have h3 := fun W => Tryd.cmp_Compare_int co co' W
  have h4 := fun W => Tryd.cmp_Compare_int ru ru' W
  have h5 := fun W => Tryd.cmp_Compare_int lb lb' W
  unfold cmpP
  simp only
  generalize cmpS mo mo' = c1 at *
  generalize Lib.compareInt li li' = c2 at *
  generalize Lib.compareInt co co' = c3 at *
  generalize Lib.compareInt ru ru' = c4 at *
  generalize Lib.compareInt lb lb' = c5 at *
  have H1 := Lib.hid h1
  have H2 := Lib.hid h2
  have H3 := Lib.hid h3
  have H4 := Lib.hid h4
  have H5 := Lib.hid h5
  clear h1 h2 h3 h4 h5
  go_enter Tryd.func89, Tryd.ntmps89
  go_upto_region 1 with fail
  obtain ⟨g, hg⟩ : ∃ g, w.heap.size = g := ⟨_, rfl⟩
  have hgr : Gr w ((w.alloc (.cells #[.string mo, .string ex, .int .i64 li, .int .i64 co, .int .i64 ru, .int .i64 lb] 86)).alloc (.cells #[.string mo', .string ex', .int .i64 li', .int .i64 co', .int .i64 ru', .int .i64 lb'] 86)) := ((Gr.refl w).alloc _).alloc _
  have hF : ∀ W', Below ((w.alloc (.cells #[.string mo, .string ex, .int .i64 li, .int .i64 co, .int .i64 ru, .int .i64 lb] 86)).alloc (.cells #[.string mo', .string ex', .int .i64 li', .int .i64 co', .int .i64 ru', .int .i64 lb'] 86)).heap.size
      ((w.alloc (.cells #[.string mo, .string ex, .int .i64 li, .int .i64 co, .int .i64 ru, .int .i64 lb] 86)).alloc (.cells #[.string mo', .string ex', .int .i64 li', .int .i64 co', .int .i64 ru', .int .i64 lb'] 86)) W' → W'.cell? ⟨g, 0, none⟩ = some (.string mo) ∧ W'.cell? ⟨g + 1, 0, none⟩ = some (.string mo') ∧ W'.cell? ⟨g, 2, none⟩ = some (.int .i64 li) ∧ W'.cell? ⟨g + 1, 2, none⟩ = some (.int .i64 li') ∧ W'.cell? ⟨g, 3, none⟩ = some (.int .i64 co) ∧ W'.cell? ⟨g + 1, 3, none⟩ = some (.int .i64 co') ∧ W'.cell? ⟨g, 4, none⟩ = some (.int .i64 ru) ∧ W'.cell? ⟨g + 1, 4, none⟩ = some (.int .i64 ru') ∧ W'.cell? ⟨g, 5, none⟩ = some (.int .i64 lb) ∧ W'.cell? ⟨g + 1, 5, none⟩ = some (.int .i64 lb') := by
    subst hg
    intro W' hb
    have hsz : ((w.alloc (.cells #[.string mo, .string ex, .int .i64 li, .int .i64 co, .int .i64 ru, .int .i64 lb] 86)).alloc (.cells #[.string mo', .string ex', .int .i64 li', .int .i64 co', .int .i64 ru', .int .i64 lb'] 86)).heap.size = w.heap.size + 2 := by simp
    refine ⟨(hb.cell (p := ⟨w.heap.size, 0, none⟩) (by rw [hsz]; show w.heap.size < _; omega)).trans ?_, (hb.cell (p := ⟨w.heap.size + 1, 0, none⟩) (by rw [hsz]; show w.heap.size + 1 < _; omega)).trans ?_, (hb.cell (p := ⟨w.heap.size, 2, none⟩) (by rw [hsz]; show w.heap.size < _; omega)).trans ?_, (hb.cell (p := ⟨w.heap.size + 1, 2, none⟩) (by rw [hsz]; show w.heap.size + 1 < _; omega)).trans ?_, (hb.cell (p := ⟨w.heap.size, 3, none⟩) (by rw [hsz]; show w.heap.size < _; omega)).trans ?_, (hb.cell (p := ⟨w.heap.size + 1, 3, none⟩) (by rw [hsz]; show w.heap.size + 1 < _; omega)).trans ?_, (hb.cell (p := ⟨w.heap.size, 4, none⟩) (by rw [hsz]; show w.heap.size < _; omega)).trans ?_, (hb.cell (p := ⟨w.heap.size + 1, 4, none⟩) (by rw [hsz]; show w.heap.size + 1 < _; omega)).trans ?_, (hb.cell (p := ⟨w.heap.size, 5, none⟩) (by rw [hsz]; show w.heap.size < _; omega)).trans ?_, (hb.cell (p := ⟨w.heap.size + 1, 5, none⟩) (by rw [hsz]; show w.heap.size + 1 < _; omega)).trans ?_⟩ <;> simp
  rw [hg]
  obtain ⟨W2, hW2⟩ : ∃ W2, (w.alloc (.cells #[.string mo, .string ex, .int .i64 li, .int .i64 co, .int .i64 ru, .int .i64 lb] 86)).alloc (.cells #[.string mo', .string ex', .int .i64 li', .int .i64 co', .int .i64 ru', .int .i64 lb'] 86) = W2 := ⟨_, rfl⟩
  rw [hW2] at hgr hF ⊢
  clear hW2 hg
  have HF := Lib.hid hF
  have HG := Lib.hid hgr
  clear hF hgr
  obtain ⟨k0, k1, k2, k3, k4, k5, k6, k7, k8, k9⟩ := HF.out W2 (Below.refl _ _)
  have HK : Hid (∀ W', Gr W2 W' → Below W2.heap.size W2 W' → (Gr W2 W' ∧ Below W2.heap.size W2 W' ∧ W'.cell? ⟨g, 0, none⟩ = some (.string mo) ∧ W'.cell? ⟨g + 1, 0, none⟩ = some (.string mo') ∧ W'.cell? ⟨g, 2, none⟩ = some (.int .i64 li) ∧ W'.cell? ⟨g + 1, 2, none⟩ = some (.int .i64 li') ∧ W'.cell? ⟨g, 3, none⟩ = some (.int .i64 co) ∧ W'.cell? ⟨g + 1, 3, none⟩ = some (.int .i64 co') ∧ W'.cell? ⟨g, 4, none⟩ = some (.int .i64 ru) ∧ W'.cell? ⟨g + 1, 4, none⟩ = some (.int .i64 ru') ∧ W'.cell? ⟨g, 5, none⟩ = some (.int .i64 lb) ∧ W'.cell? ⟨g + 1, 5, none⟩ = some (.int .i64 lb'))) := Lib.hid fun W' h1 h2 => ⟨h1, h2, HF.out W' h2⟩
  go_region_held3 (fun W' => Gr W2 W' ∧ Below W2.heap.size W2 W' ∧ W'.cell? ⟨g, 0, none⟩ = some (.string mo) ∧ W'.cell? ⟨g + 1, 0, none⟩ = some (.string mo') ∧ W'.cell? ⟨g, 2, none⟩ = some (.int .i64 li) ∧ W'.cell? ⟨g + 1, 2, none⟩ = some (.int .i64 li') ∧ W'.cell? ⟨g, 3, none⟩ = some (.int .i64 co) ∧ W'.cell? ⟨g + 1, 3, none⟩ = some (.int .i64 co') ∧ W'.cell? ⟨g, 4, none⟩ = some (.int .i64 ru) ∧ W'.cell? ⟨g + 1, 4, none⟩ = some (.int .i64 ru') ∧ W'.cell? ⟨g, 5, none⟩ = some (.int .i64 lb) ∧ W'.cell? ⟨g + 1, 5, none⟩ = some (.int .i64 lb'))
    (first
      | exact HK.out _ (Gr.refl W2).drew (Below.refl W2.heap.size W2).drew
      | (go_split_ands; exact HK.out _ (Gr.alloc (by assumption) _) (Below.alloc (by assumption) (Below.size (by assumption)) _))
      | (go_split_ands; exact HK.out _ (Gr.trans (by assumption) hor) (bl (by assumption) (Gr.below hor)))
      | go_keep)
    ((first
      | (go_at_call 119; refine (or_any [c1, c2, c3, c4, c5] _ _ (by simp) (by intro k c h; rcases k with _|_|_|_|_|k <;> simp at h <;> subst h <;> simp)).mono ?_; rintro e w7 ⟨rfl, hor⟩)
      | (go_at_call 120; refine (H1.out _).mono ?_; rintro e w6 ⟨rfl, rfl⟩)
      | (go_at_call 121; first
          | ((with_reducible refine (H2.out _).mono ?_); rintro e w6 ⟨rfl, rfl⟩)
          | ((with_reducible refine (H3.out _).mono ?_); rintro e w6 ⟨rfl, rfl⟩)
          | ((with_reducible refine (H4.out _).mono ?_); rintro e w6 ⟨rfl, rfl⟩)
          | ((with_reducible refine (H5.out _).mono ?_); rintro e w6 ⟨rfl, rfl⟩))))
  rename_i hHeld
  go_wp2_with fail
  go_ret
  exact ⟨rfl, HG.out.trans hHeld.1⟩

theorem ahead_any (x y : Site × Int) (w : World) :
    Calls Tryd.prog 48 #[.agg (encP x).toArray, .agg (encP y).toArray] w fun e w' => e = .returned (.int .i64 (cmpP x y)) ∧ Gr w w' := by
  have h := Lib.hid (compare_any x y)
  obtain ⟨⟨mo, ex, li, co, ru⟩, lb⟩ := x
  obtain ⟨⟨mo', ex', li', co', ru'⟩, lb'⟩ := y
  show Calls _ _ #[.agg #[.string mo, .string ex, .int .i64 li, .int .i64 co, .int .i64 ru, .int .i64 lb], .agg #[.string mo', .string ex', .int .i64 li', .int .i64 co', .int .i64 ru', .int .i64 lb']] _ _
  simp only at h
  generalize cmpP _ _ = c at *
  go_enter Tryd.func48, Tryd.ntmps48
  go_wp2_with fail
  refine (h.out _).mono ?_
  rintro e w1 ⟨rfl, hg⟩
  go_wp2_with fail
  go_ret
  exact ⟨rfl, (((Gr.refl w).alloc _).alloc _).trans hg⟩
end Go.Proofs.YthonnpjlkcjoeaaDoor.La
