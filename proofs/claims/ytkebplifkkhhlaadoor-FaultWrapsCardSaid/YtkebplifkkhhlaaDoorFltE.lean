/- Contract: the law's 'works'. -/
import Derived.Test.YtkebplifkkhhlaaDoorFltD
namespace Go.Proofs.YtkebplifkkhhlaaDoor.F
open Go.RowKit Go.Proofs.YtkebplifkkhhlaaDoor.B Go.Proofs.YtkebplifkkhhlaaDoor.La
set_option linter.unusedVariables false
set_option linter.unusedSimpArgs false

def bsite : Site := ⟨⟨#[109, 97, 105, 110]⟩, ⟨#[108, 105, 98]⟩, 0, 0, 18⟩
theorem one_sl {w : World} {T : TypeId} {cs : List Value} {sz : Nat} (h : cs.length = 1 * sz) : Sl (w.alloc (.cells cs.toArray T)) (w.alloc (.cells cs.toArray T)).heap.size sz (some ⟨w.heap.size, 0, none⟩) 1 cs := by
  refine ⟨h, .inr ⟨w.heap.size, 0, rfl, by simp, fun j u hu => ?_⟩⟩
  rw [Blk.cell (Blk.new w T cs.toArray), Nat.zero_add]
  simpa using hu

theorem works_wn : wnOf [bsite] [⟨9, 1, ⟨#[]⟩⟩] = .blame 1 bsite ⟨#[108, 105, 98]⟩ := by
  simp [wnOf, sideL, sideI, nameOf, bsite]
theorem itoaS_one : itoaS 1 = ⟨#[49]⟩ := by simp [itoaS, Lib.itoa, Lib.decDigits]
theorem works_tx (a b c : Nat) (s : Site) : (Er.inn a ⟨#[102]⟩ (.inn b ⟨#[103]⟩ (.bl c 1 s ⟨#[108, 105, 98]⟩))).tx = ⟨#[102, 58, 32, 103, 58, 32, 98, 108, 97, 109, 101, 32, 49, 32, 108, 105, 98]⟩ := by
  have h : itoaS 1 = ⟨#[49]⟩ := itoaS_one
  simp only [Er.tx, blameT, h]
  decide

set_option maxRecDepth 100000 in
set_option maxHeartbeats 4000000 in
theorem works_any (w : World) (hg : Han w) (ht : Tab w) : Calls Tryd.prog 10 #[] w fun ev w' => ev = .returned (.bool true) ∧ Below w.heap.size w w' := by
  have HG := Lib.hid hg
  have HT := Lib.hid ht
  obtain ⟨W1, hW1⟩ : ∃ W1, w.alloc (.cells #[.string ⟨#[109, 97, 105, 110]⟩, .string ⟨#[108, 105, 98]⟩, .int .i64 0, .int .i64 0, .int .i64 18] 36) = W1 := ⟨_, rfl⟩
  obtain ⟨W2, hW2⟩ : ∃ W2, W1.alloc (.cells #[.int .i8 9, .int .i64 1, .string ⟨#[]⟩] 122) = W2 := ⟨_, rfl⟩
  have hb1 : Below w.heap.size w W1 := by rw [← hW1]; exact bal (Below.refl _ _) _
  have hb12 : Below W1.heap.size W1 W2 := by rw [← hW2]; exact bal (Below.refl _ _) _
  have hs1 : Sl W1 W1.heap.size 5 (some ⟨w.heap.size, 0, none⟩) 1 (cells [bsite]) := by rw [← hW1]; exact one_sl (cs := bsite.vs) rfl
  have hs2 : Sl W2 W2.heap.size 3 (some ⟨W1.heap.size, 0, none⟩) 1 (obs [⟨9, 1, ⟨#[]⟩⟩]) := by rw [← hW2]; exact one_sl (cs := Ob.vs ⟨9, 1, ⟨#[]⟩⟩) rfl
  have hof := of_any [bsite] (some ⟨w.heap.size, 0, none⟩) 1 [⟨9, 1, ⟨#[]⟩⟩] (some ⟨W1.heap.size, 0, none⟩) 1 0 0 0 W2 (by simp) (by simp) ((hs1.below hb12).more hb12.size) hs2 (by simp)
  have HB2 := Lib.hid (bl hb1 hb12)
  rw [works_wn] at hof
  unfold resV at hof
  simp only [List.length_cons, List.length_nil, Nat.zero_add] at hof
  clear hs1 hs2 hb1 hb12 hg ht
  go_enter Tryd.func10, Tryd.ntmps10
  go_wp2_with fail
  (refine hof.mono ?_); rintro ev w1 ⟨e, rfl, hat, ⟨a, rfl⟩, hb⟩
  have HA := Lib.hid hat
  have HB := Lib.hid (bl HB2.out hb)
  clear hat hb hof
  go_wp2_with fail
  (refine (wrap_any ⟨#[103]⟩ _ w1 HA.out).mono ?_); rintro ev w3 ⟨u, rfl, hu, hb, _, hq⟩
  obtain rfl := hq (by intro h; cases h)
  have HA1 := Lib.hid hu
  have HB3 := Lib.hid (bl HB.out hb)
  clear hu hb hq
  go_wp2_with fail
  (refine (wrap_any ⟨#[102]⟩ _ w3 HA1.out).mono ?_); rintro ev w4 ⟨u, rfl, hu, hb, _, hq⟩
  obtain rfl := hq (by intro h; cases h)
  have HA2 := Lib.hid hu
  have HB4 := Lib.hid (bl HB3.out hb)
  clear hu hb hq
  have htl : (Er.inn w3.heap.size ⟨#[102]⟩ (.inn w1.heap.size ⟨#[103]⟩ (.bl a 1 bsite ⟨#[108, 105, 98]⟩))).tells := by
    have h := itoaS_one
    refine ⟨⟨⟨by omega, by omega, by decide⟩, ?_⟩, ?_⟩
    · simp only [Er.tx, blameT, h]; decide
    · simp only [Er.tx, blameT, h]; decide
  have htx := works_tx w3.heap.size w1.heap.size a bsite
  have hlab := label_any _ w4 (HG.out.below HB4.out) HA2.out
  have his := fun (W : World) (hb : Below w4.heap.size w4 W) => Is_code _ 33 W (HA2.out.below hb)
  have htxt := fun (W : World) (hb : Below w4.heap.size w4 W) => text_any _ W (HA2.out.below hb) (HT.out.below (bl HB4.out hb)) htl
  have hcod := fun (W : World) (hb : Below w4.heap.size w4 W) => code_any .no W (HG.out.below (bl HB4.out hb)) trivial
  rw [htx] at htxt
  simp only [Er.lab, Er.code, Er.val, ptr', Option.getD_some, Option.getD_none, Option.isSome_some, decide_true] at hlab his htxt hcod ⊢
  clear htx htl
  go_wp2_with fail
  (refine hlab.mono ?_); rintro ev w5 ⟨rfl, hb5⟩
  have HB5 := Lib.hid hb5
  clear hb5 hlab
  go_wp2_with fail
  (refine (htxt _ HB5.out).mono ?_); rintro ev w6 ⟨rfl, hb⟩
  have HB6 := Lib.hid (bl HB5.out hb)
  clear hb
  go_wp2_with fail
  (refine (his _ HB6.out).mono ?_); rintro ev w7 ⟨rfl, rfl⟩
  go_wp2_with fail
  (refine (hcod _ HB6.out).mono ?_); rintro ev w8 ⟨rfl, hb⟩
  go_wp2_with fail
  go_ret
  exact ⟨rfl, bl (bl HB4.out HB6.out) hb⟩
end Go.Proofs.YtkebplifkkhhlaaDoor.F
