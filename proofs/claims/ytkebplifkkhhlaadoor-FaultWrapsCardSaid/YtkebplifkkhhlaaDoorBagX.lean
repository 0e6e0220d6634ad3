/- A bag of texts alone, to which lists were added that were made behind it: they share no memory. -/
import Derived.Test.YtkebplifkkhhlaaDoorBagN
import Derived.Test.YtkebplifkkhhlaaDoorBagT
import Derived.Test.YtkebplifkkhhlaaDoorBagS
namespace Go.Proofs.YtkebplifkkhhlaaDoor.B
open Go.RowKit
set_option linter.unusedSimpArgs false
set_option linter.unusedVariables false

/-- Behind AddX, told finer: where the longer row lies. -/
def AddF (gb base q n : Nat) (TB TL : TypeId) (f : Nat → Value) (vs : List Value) (l : Value) (w : World) (e : Ending) (w' : World) : Prop :=
  e = .returned (.tuple #[]) ∧ ∃ f', w'.rowIs gb TB 18 f' ∧ (∀ k, k ≠ q → f' k = f k) ∧ w'.ownsRow base TL 1 (f' q) (n + 1) (vs ++ [l]) ∧ Below gb w w' ∧ (∀ b, (f' q).ownBlock = some b → (f q).ownBlock = some b ∨ w.heap.size ≤ b) ∧ (∀ k, k < w.heap.size → k ≠ gb → (f q).ownBlock ≠ some k → w'.heap[k]? = w.heap[k]?)

set_option maxRecDepth 100000 in
set_option maxHeartbeats 1000000 in
theorem addTexts_fine (gb base n : Nat) (f : Nat → Value) (vs : List Value) (A0 : Option Addr) (n0 c0 : Nat) (w : World) (hb : w.rowIs gb 82 18 f) (ho : w.ownsRow base 45 1 (f 4) n vs) (hn : n < 300)
    (hgb : gb < base) (hbase : base ≤ w.heap.size) :
    Calls Tryd.prog 30 #[.pointer (some ⟨gb, 0, none⟩), .slice A0 n0 c0] w fun e w' => AddF gb base 4 n 82 45 f vs (.slice A0 n0 c0) w e w' := by
  obtain ⟨i0, hi0, hz0, hz1, hz2⟩ := info_parts3 infoLTexts
  have h1 := hb.cell (i := 4) (by omega)
  obtain ⟨A, c, hf, hnc, hcm⟩ := own_shape ho
  rw [hf] at h1 ho
  unfold AddF
  have HB := Lib.hid hb
  have hw0 : gb < w.heap.size := hb.lt
  clear hb
  go_enter Tryd.func30, Tryd.ntmps30
  go_wp2_with (at_builtin; refine wpList_append_fine _ rfl (.tmp 14) (.tmp 16) 67 rfl base 45 i0 _ 1 24 Tryd.underlying67 hi0 hz0 hz1 hz2 rfl _ n _ rfl (ho.alloc _) (w.heap.size + 1) _ 1 1 [.slice A0 n0 c0] rfl (Sl.one _ _ _) ?_ ?_ ?_ ?_ ?_ ?_)
  · intro u hu; simp at hu; subst hu; rfl
  · omega
  · unfold maxLen; omega
  · omega
  · simp; omega
  intro v1 w1 hown1 ht1
  have hne : (Value.slice A n c).ownBlock ≠ some gb := fun e => by have := (ho.lt gb e).1; omega
  have hr1 := (HB.out.alloc (.cells #[.slice A0 n0 c0] 45)).of_block (ht1.block (b := gb) (by simp; omega) hne)
  have hc1 := hr1.cell (i := 4) (by omega)
  have hc2 := hr1.frozen 4
  have hbel : Below gb w w1 := (Below.alloc (Below.refl _ _) (by omega) _).grown ht1.grown (by simp; omega) (fun k hk => by have := (ho.lt k hk).1; omega)
  have hfr : ∀ b, v1.ownBlock = some b → (Value.slice A n c).ownBlock = some b ∨ w.heap.size ≤ b := fun b hb => by
    rcases ht1 with ⟨h, _⟩ | ⟨h, _⟩
    · exact .inl (by rw [← h]; exact hb)
    · rw [h] at hb
      injection hb with hb
      right; rw [← hb]; simp
  have hkp : ∀ k, k < w.heap.size → k ≠ gb → (Value.slice A n c).ownBlock ≠ some k → w1.heap[k]? = w.heap[k]? := fun k hk _ hr =>
    (ht1.block (by simp; omega) hr).trans ((Below.alloc (Below.refl w.heap.size w) (Nat.le_refl _) _).block k hk)
  clear ht1
  obtain ⟨A1, c1, rfl, hn1, hm1⟩ := own_shape hown1
  go_wp2_with fail
  go_end0
  refine ⟨rfl, _, hr1.set 4 (.slice A1 (n + 1) c1), fun k hk => if_neg hk, ?_, hbel.setCell (Nat.le_refl _) _, ?_⟩
  · rw [if_pos rfl]
    exact ownsRow_setCell_below hown1 (by show gb < base; exact hgb) _
  · rw [if_pos rfl, hf]
    exact ⟨hfr, fun k hk h1 h2 => (Below.heap_setCell w1 ⟨gb, 4, none⟩ _ k fun e => h1 e).trans (hkp k hk h1 h2)⟩
theorem apart_texts2 (w0 : World) (ht : T.Tab w0) (gb base K : Nat) (f : Nat → Value) (vs : Nat → Value) (ns : Nat → Nat) (w : World) (hr : w.rowIs gb 82 18 f) (hf : ∀ k, k ≠ 4 → f k = .slice none 0 0)
    (ho : w.ownsRow (gb + 1) 45 1 (f 4) K ((List.range K).map vs)) (hK0 : 0 < K) (hK : K ≤ 300)
    (hv : ∀ m, m < K → ∃ xs, w.ownsRow base 9 1 (vs m) (ns m) xs) (h1 : ∀ m, m < K → (vs m).ownBlock ≠ some gb) (h2' : ∀ m, m < K → ∀ b, (vs m).ownBlock = some b → (f 4).ownBlock ≠ some b) (hap : ∀ i j, i < K → j < K → i ≠ j → Ap (vs i) (vs j))
    (hns : ∀ m, m < K → ns m ≤ 1099511627776) (hbs : base ≤ w.heap.size) (hw0 : Below w0.heap.size w0 w) (hb0 : w0.heap.size ≤ base) :
    Calls Tryd.prog 32 #[.pointer (some ⟨gb, 0, none⟩)] w fun e w' => e = .returned (.bool true) ∧ But (fun k => ∃ m, m < K ∧ (vs m).ownBlock = some k) w w' := by
  have hcell := hr.cell (i := 4) (by omega)
  obtain ⟨A, c, hfq, hKc, hcm, hlen, hlt2, hrd⟩ := Rd.of_own ho
  obtain ⟨ob, rfl, hcells⟩ := hrd.resolve_left (by omega)
  have hobg : gb + 1 ≤ ob ∧ ob < w.heap.size := ho.lt ob (by rw [hfq]; rfl)
  rw [hfq] at hcell
  have hS : Shelfed gb 4 K w ob c vs w := ⟨hcell, fun m hm => hcells m _ (by rw [List.getElem?_map, List.getElem?_range hm]; rfl)⟩
  have h2 : ∀ m, m < K → (vs m).ownBlock ≠ some ob := fun m hm e => h2' m hm ob e (by rw [hfq]; rfl)
  have hX := apartTexts_any w0 ht gb base K ob c vs ns w hS hr.lt hobg.2 h1 h2 hv hap hw0 hb0 hbs hK hns
  have hN : ∀ k, k < 18 → k ≠ 4 → ∀ W, But (fun k => ∃ m, m < K ∧ (vs m).ownBlock = some k) w W → W.cell? ⟨gb, k, none⟩ = some (.slice none 0 0) := fun k hk hkq W hb => by
    have := (hr.of_block (hb.block gb hr.lt fun ⟨m, hm, e⟩ => h1 m hm e)).cell hk
    rw [hf k hkq] at this; exact this
  refine (apart_chain (fun k W => (k ≤ 4 → W = w) ∧ But (fun k => ∃ m, m < K ∧ (vs m).ownBlock = some k) w W) gb w ⟨fun _ => rfl, But.refl _ _⟩
    (fun W hW => (apartBytes_nil gb W (hN 0 (by omega) (by omega) W hW.2)).mono fun e w' h => ⟨h.1, by rw [h.2]; exact ⟨fun h => hW.1 (by omega), hW.2⟩⟩)
    (fun W hW => (apartInts_nil gb W (hN 1 (by omega) (by omega) W hW.2)).mono fun e w' h => ⟨h.1, by rw [h.2]; exact ⟨fun h => hW.1 (by omega), hW.2⟩⟩)
    (fun W hW => (apartLongs_nil gb W (hN 2 (by omega) (by omega) W hW.2)).mono fun e w' h => ⟨h.1, by rw [h.2]; exact ⟨fun h => hW.1 (by omega), hW.2⟩⟩)
    (fun W hW => (apartBools_nil gb W (hN 3 (by omega) (by omega) W hW.2)).mono fun e w' h => ⟨h.1, by rw [h.2]; exact ⟨fun h => hW.1 (by omega), hW.2⟩⟩)
    (fun W hW => by rw [hW.1 (by omega)]; exact hX.mono fun e w' h => ⟨h.1, fun h => by omega, h.2⟩)
    (fun W hW => (apartNodes_nil gb W (hN 5 (by omega) (by omega) W hW.2)).mono fun e w' h => ⟨h.1, by rw [h.2]; exact ⟨fun h => hW.1 (by omega), hW.2⟩⟩)
    (fun W hW => (apartCos_nil gb W (hN 6 (by omega) (by omega) W hW.2)).mono fun e w' h => ⟨h.1, by rw [h.2]; exact ⟨fun h => hW.1 (by omega), hW.2⟩⟩)
    (fun W hW => (apartSeen_nil gb W (hN 7 (by omega) (by omega) W hW.2)).mono fun e w' h => ⟨h.1, by rw [h.2]; exact ⟨fun h => hW.1 (by omega), hW.2⟩⟩)
    (fun W hW => (apartSites_nil gb W (hN 8 (by omega) (by omega) W hW.2)).mono fun e w' h => ⟨h.1, by rw [h.2]; exact ⟨fun h => hW.1 (by omega), hW.2⟩⟩)
    (fun W hW => (apartIns_nil gb W (hN 9 (by omega) (by omega) W hW.2)).mono fun e w' h => ⟨h.1, by rw [h.2]; exact ⟨fun h => hW.1 (by omega), hW.2⟩⟩)
    (fun W hW => (apartImports_nil gb W (hN 10 (by omega) (by omega) W hW.2)).mono fun e w' h => ⟨h.1, by rw [h.2]; exact ⟨fun h => hW.1 (by omega), hW.2⟩⟩)
    (fun W hW => (apartTraps_nil gb W (hN 11 (by omega) (by omega) W hW.2)).mono fun e w' h => ⟨h.1, by rw [h.2]; exact ⟨fun h => hW.1 (by omega), hW.2⟩⟩)
    (fun W hW => (apartRows_nil gb W (hN 12 (by omega) (by omega) W hW.2)).mono fun e w' h => ⟨h.1, by rw [h.2]; exact ⟨fun h => hW.1 (by omega), hW.2⟩⟩)
    (fun W hW => (apartDefs_nil gb W (hN 13 (by omega) (by omega) W hW.2)).mono fun e w' h => ⟨h.1, by rw [h.2]; exact ⟨fun h => hW.1 (by omega), hW.2⟩⟩)
    (fun W hW => (apartModules_nil gb W (hN 14 (by omega) (by omega) W hW.2)).mono fun e w' h => ⟨h.1, by rw [h.2]; exact ⟨fun h => hW.1 (by omega), hW.2⟩⟩)
    (fun W hW => (apartFunctions_nil gb W (hN 15 (by omega) (by omega) W hW.2)).mono fun e w' h => ⟨h.1, by rw [h.2]; exact ⟨fun h => hW.1 (by omega), hW.2⟩⟩)
    (fun W hW => (apartWaits_nil gb W (hN 16 (by omega) (by omega) W hW.2)).mono fun e w' h => ⟨h.1, by rw [h.2]; exact ⟨fun h => hW.1 (by omega), hW.2⟩⟩)
    (fun W hW => (apartTrees_nil gb W (hN 17 (by omega) (by omega) W hW.2)).mono fun e w' h => ⟨h.1, by rw [h.2]; exact ⟨fun h => hW.1 (by omega), hW.2⟩⟩)).mono fun e w' h => ⟨h.1, h.2.2⟩
end Go.Proofs.YtkebplifkkhhlaaDoor.B
