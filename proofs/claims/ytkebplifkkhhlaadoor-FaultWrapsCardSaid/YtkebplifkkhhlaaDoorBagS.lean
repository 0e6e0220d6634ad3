/- A bag of lists: a list of texts is added. -/
import Derived.Test.YtkebplifkkhhlaaDoorBagAZ
namespace Go.Proofs.YtkebplifkkhhlaaDoor.B
open Go.RowKit
set_option linter.unusedSimpArgs false
set_option linter.unusedVariables false

theorem infoLTexts : (Tryd.prog.info? 45).map (fun i => (i.zero, i.size, i.bytes)) = some (some (.slice none 0 0), 1, 24) := by kernel_rfl

set_option maxRecDepth 100000 in
set_option maxHeartbeats 1000000 in
theorem addTexts_any (gb base n : Nat) (f : Nat → Value) (vs : List Value) (A0 : Option Addr) (n0 c0 : Nat) (w : World) (hb : w.rowIs gb 82 18 f) (ho : w.ownsRow base 45 1 (f 4) n vs) (hn : n < 300)
    (hgb : gb < base) (hbase : base ≤ w.heap.size) :
    Calls Tryd.prog 30 #[.pointer (some ⟨gb, 0, none⟩), .slice A0 n0 c0] w fun e w' => AddR gb base 4 n 82 45 f vs (.slice A0 n0 c0) w e w' := by
  obtain ⟨i0, hi0, hz0, hz1, hz2⟩ := info_parts3 infoLTexts
  have h1 := hb.cell (i := 4) (by omega)
  obtain ⟨A, c, hf, hnc, hcm⟩ := own_shape ho
  rw [hf] at h1 ho
  unfold AddR
  have HB := Lib.hid hb
  have hw0 : gb < w.heap.size := hb.lt
  clear hb
  go_enter Tryd.func30, Tryd.ntmps30
  go_wp2_with (at_builtin; refine wpList_append_fine _ rfl (.tmp 14) (.tmp 16) 67 rfl base 45 i0 _ 1 24 Tryd.underlying67 hi0 hz0 hz1 hz2 rfl _ n _ rfl (ho.alloc _) (w.heap.size + 1) _ 1 1 [.slice A0 n0 c0] rfl (Sl.one _ _ _) ?_ ?_ ?_ ?_ ?_ ?_)
  · intro u hu; simp at hu; subst hu; rfl
  · omega
  · unfold maxLen; omega
  · omega
  · simp; omega
  intro v1 w1 hown1 ht1
  have hne : (Value.slice A n c).ownBlock ≠ some gb := fun e => by have := (ho.lt gb e).1; omega
  have hr1 := (HB.out.alloc (.cells #[.slice A0 n0 c0] 45)).of_block (ht1.block (b := gb) (by simp; omega) hne)
  have hc1 := hr1.cell (i := 4) (by omega)
  have hc2 := hr1.frozen 4
  have hbel : Below gb w w1 := (Below.alloc (Below.refl _ _) (by omega) _).grown ht1.grown (by simp; omega) (fun k hk => by have := (ho.lt k hk).1; omega)
  clear ht1
  obtain ⟨A1, c1, rfl, hn1, hm1⟩ := own_shape hown1
  go_wp2_with fail
  go_end0
  refine ⟨rfl, _, hr1.set 4 (.slice A1 (n + 1) c1), fun k hk => if_neg hk, ?_, hbel.setCell (Nat.le_refl _) _⟩
  rw [if_pos rfl]
  exact ownsRow_setCell_below hown1 (by show gb < base; exact hgb) _
end Go.Proofs.YtkebplifkkhhlaaDoor.B
