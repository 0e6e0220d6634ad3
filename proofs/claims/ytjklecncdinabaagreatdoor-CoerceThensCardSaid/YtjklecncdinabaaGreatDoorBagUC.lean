/- A bag that holds lists of one kind alone (printed by gen_bagu.py): they share no memory. -/
import Derived.Test.YtjklecncdinabaaGreatDoorBagN
import Derived.Test.YtjklecncdinabaaGreatDoorBagC
namespace Go.Proofs.YtjklecncdinabaaGreatDoor.B
open Go.RowKit
set_option linter.unusedSimpArgs false
set_option linter.unusedVariables false

theorem apart_cos (gb base K : Nat) (f : Nat → Value) (vs : Nat → Value) (ns : Nat → Nat) (w : World) (hr : w.rowIs gb 59 18 f) (hf : ∀ k, k ≠ 6 → f k = .slice none 0 0)
    (ho : w.ownsRow (gb + 1) 22 1 (f 6) K ((List.range K).map vs)) (hK0 : 0 < K) (hK : K ≤ 300)
    (hv : ∀ m, m < K → ∃ xs, w.ownsRow base 28 7 (vs m) (ns m) xs) (hne : ∀ m, m < K → ∀ b, (vs m).ownBlock = some b → b ≠ gb ∧ (f 6).ownBlock ≠ some b) (hap : ∀ i j, i < K → j < K → i ≠ j → Ap (vs i) (vs j))
    (hns : ∀ m, m < K → ns m ≤ 1099511627) (hbs : base ≤ w.heap.size) :
    Calls Tryz.prog 14 #[.pointer (some ⟨gb, 0, none⟩)] w fun e w' => e = .returned (.bool true) ∧ But (fun k => ∃ m, m < K ∧ (vs m).ownBlock = some k) w w' := by
  have hcell := hr.cell (i := 6) (by omega)
  obtain ⟨A, c, hfq, hKc, hcm, hlen, hlt2, hrd⟩ := Rd.of_own ho
  obtain ⟨ob, rfl, hcells⟩ := hrd.resolve_left (by omega)
  have hobg : gb + 1 ≤ ob ∧ ob < w.heap.size := ho.lt ob (by rw [hfq]; rfl)
  rw [hfq] at hcell
  have hS : Shelfed gb 6 K w ob c vs w := ⟨hcell, fun m hm => hcells m _ (by rw [List.getElem?_map, List.getElem?_range hm]; rfl)⟩
  have h1 : ∀ m, m < K → (vs m).ownBlock ≠ some gb := fun m hm e => (hne m hm gb e).1 rfl
  have h2 : ∀ m, m < K → (vs m).ownBlock ≠ some ob := fun m hm e => (hne m hm ob e).2 (by rw [hfq]; rfl)
  have hX := apartCos_any gb base K ob c vs ns w hS hr.lt hobg.2 h1 h2 hv hap hbs hK hns
  have hN : ∀ k, k < 18 → k ≠ 6 → ∀ W, But (fun k => ∃ m, m < K ∧ (vs m).ownBlock = some k) w W → W.cell? ⟨gb, k, none⟩ = some (.slice none 0 0) := fun k hk hkq W hb => by
    have := (hr.of_block (hb.block gb hr.lt fun ⟨m, hm, e⟩ => h1 m hm e)).cell hk
    rw [hf k hkq] at this; exact this
  refine (apart_chain (fun k W => (k ≤ 6 → W = w) ∧ But (fun k => ∃ m, m < K ∧ (vs m).ownBlock = some k) w W) gb w ⟨fun _ => rfl, But.refl _ _⟩
    (fun W hW => (apartBytes_nil gb W (hN 0 (by omega) (by omega) W hW.2)).mono fun e w' h => ⟨h.1, by rw [h.2]; exact ⟨fun h => hW.1 (by omega), hW.2⟩⟩)
    (fun W hW => (apartInts_nil gb W (hN 1 (by omega) (by omega) W hW.2)).mono fun e w' h => ⟨h.1, by rw [h.2]; exact ⟨fun h => hW.1 (by omega), hW.2⟩⟩)
    (fun W hW => (apartLongs_nil gb W (hN 2 (by omega) (by omega) W hW.2)).mono fun e w' h => ⟨h.1, by rw [h.2]; exact ⟨fun h => hW.1 (by omega), hW.2⟩⟩)
    (fun W hW => (apartBools_nil gb W (hN 3 (by omega) (by omega) W hW.2)).mono fun e w' h => ⟨h.1, by rw [h.2]; exact ⟨fun h => hW.1 (by omega), hW.2⟩⟩)
    (fun W hW => (apartTexts_nil gb W (hN 4 (by omega) (by omega) W hW.2)).mono fun e w' h => ⟨h.1, by rw [h.2]; exact ⟨fun h => hW.1 (by omega), hW.2⟩⟩)
    (fun W hW => (apartNodes_nil gb W (hN 5 (by omega) (by omega) W hW.2)).mono fun e w' h => ⟨h.1, by rw [h.2]; exact ⟨fun h => hW.1 (by omega), hW.2⟩⟩)
    (fun W hW => by rw [hW.1 (by omega)]; exact hX.mono fun e w' h => ⟨h.1, fun h => by omega, h.2⟩)
    (fun W hW => (apartSeen_nil gb W (hN 7 (by omega) (by omega) W hW.2)).mono fun e w' h => ⟨h.1, by rw [h.2]; exact ⟨fun h => hW.1 (by omega), hW.2⟩⟩)
    (fun W hW => (apartSites_nil gb W (hN 8 (by omega) (by omega) W hW.2)).mono fun e w' h => ⟨h.1, by rw [h.2]; exact ⟨fun h => hW.1 (by omega), hW.2⟩⟩)
    (fun W hW => (apartIns_nil gb W (hN 9 (by omega) (by omega) W hW.2)).mono fun e w' h => ⟨h.1, by rw [h.2]; exact ⟨fun h => hW.1 (by omega), hW.2⟩⟩)
    (fun W hW => (apartImports_nil gb W (hN 10 (by omega) (by omega) W hW.2)).mono fun e w' h => ⟨h.1, by rw [h.2]; exact ⟨fun h => hW.1 (by omega), hW.2⟩⟩)
    (fun W hW => (apartTraps_nil gb W (hN 11 (by omega) (by omega) W hW.2)).mono fun e w' h => ⟨h.1, by rw [h.2]; exact ⟨fun h => hW.1 (by omega), hW.2⟩⟩)
    (fun W hW => (apartRows_nil gb W (hN 12 (by omega) (by omega) W hW.2)).mono fun e w' h => ⟨h.1, by rw [h.2]; exact ⟨fun h => hW.1 (by omega), hW.2⟩⟩)
    (fun W hW => (apartDefs_nil gb W (hN 13 (by omega) (by omega) W hW.2)).mono fun e w' h => ⟨h.1, by rw [h.2]; exact ⟨fun h => hW.1 (by omega), hW.2⟩⟩)
    (fun W hW => (apartModules_nil gb W (hN 14 (by omega) (by omega) W hW.2)).mono fun e w' h => ⟨h.1, by rw [h.2]; exact ⟨fun h => hW.1 (by omega), hW.2⟩⟩)
    (fun W hW => (apartFunctions_nil gb W (hN 15 (by omega) (by omega) W hW.2)).mono fun e w' h => ⟨h.1, by rw [h.2]; exact ⟨fun h => hW.1 (by omega), hW.2⟩⟩)
    (fun W hW => (apartWaits_nil gb W (hN 16 (by omega) (by omega) W hW.2)).mono fun e w' h => ⟨h.1, by rw [h.2]; exact ⟨fun h => hW.1 (by omega), hW.2⟩⟩)
    (fun W hW => (apartTrees_nil gb W (hN 17 (by omega) (by omega) W hW.2)).mono fun e w' h => ⟨h.1, by rw [h.2]; exact ⟨fun h => hW.1 (by omega), hW.2⟩⟩)).mono fun e w' h => ⟨h.1, h.2.2⟩
end Go.Proofs.YtjklecncdinabaaGreatDoor.B
