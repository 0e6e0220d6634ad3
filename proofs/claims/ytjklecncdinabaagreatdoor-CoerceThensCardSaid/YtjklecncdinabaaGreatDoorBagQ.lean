/- A bag of lists: a list of nodes of coercions is added. -/
import Derived.Test.YtjklecncdinabaaGreatDoorBagAZ
namespace Go.Proofs.YtjklecncdinabaaGreatDoor.B
open Go.RowKit
set_option linter.unusedSimpArgs false
set_option linter.unusedVariables false

/-- Behind AddCos, told finely: the bag's kind q has one list more; nothing but the bag and its row is touched; where the row lies. -/
def AddO (gb base q n : Nat) (TB TL : TypeId) (f : Nat → Value) (vs : List Value) (l : Value) (w : World) (e : Ending) (w' : World) : Prop :=
  e = .returned (.tuple #[]) ∧ ∃ f', w'.rowIs gb TB 18 f' ∧ (∀ k, k ≠ q → f' k = f k) ∧ w'.ownsRow base TL 1 (f' q) (n + 1) (vs ++ [l]) ∧ But (fun k => k = gb ∨ (f q).ownBlock = some k) w w' ∧ ∀ b, (f' q).ownBlock = some b → (f q).ownBlock = some b ∨ w.heap.size ≤ b
theorem But.setCell {C : Nat → Prop} {a w : World} (h : But C a w) {p : Addr} (hp : C p.block) (u : Value) : But C a (w.setCell p u) :=
  ⟨h.os, h.tape, h.output, by rw [World.size_setCell]; exact h.size, fun k hk hc => (Below.heap_setCell w p u k (fun e => hc (e ▸ hp))).trans (h.block k hk hc)⟩

theorem infoLCos : (Tryz.prog.info? 22).map (fun i => (i.zero, i.size, i.bytes)) = some (some (.slice none 0 0), 1, 24) := by kernel_rfl

set_option maxRecDepth 100000 in
set_option maxHeartbeats 1000000 in
theorem addCos_any (gb base n : Nat) (f : Nat → Value) (vs : List Value) (A0 : Option Addr) (n0 c0 : Nat) (w : World) (hb : w.rowIs gb 59 18 f) (ho : w.ownsRow base 22 1 (f 6) n vs) (hn : n < 300)
    (hgb : gb < base) (hbase : base ≤ w.heap.size) :
    Calls Tryz.prog 13 #[.pointer (some ⟨gb, 0, none⟩), .slice A0 n0 c0] w fun e w' => AddO gb base 6 n 59 22 f vs (.slice A0 n0 c0) w e w' := by
  obtain ⟨i0, hi0, hz0, hz1, hz2⟩ := info_parts3 infoLCos
  have h1 := hb.cell (i := 6) (by omega)
  obtain ⟨A, c, hf, hnc, hcm⟩ := own_shape ho
  rw [hf] at h1 ho
  unfold AddO
  have HB := Lib.hid hb
  have hw0 : gb < w.heap.size := hb.lt
  clear hb
  go_enter Tryz.func13, Tryz.ntmps13
  go_wp2_with (at_builtin; refine wpList_append_fine _ rfl (.tmp 14) (.tmp 16) 46 rfl base 22 i0 _ 1 24 Tryz.underlying46 hi0 hz0 hz1 hz2 rfl _ n _ rfl (ho.alloc _) (w.heap.size + 1) _ 1 1 [.slice A0 n0 c0] rfl (Sl.one _ _ _) ?_ ?_ ?_ ?_ ?_ ?_)
  · intro u hu; simp at hu; subst hu; rfl
  · omega
  · unfold maxLen; omega
  · omega
  · simp; omega
  intro v1 w1 hown1 ht1
  have hne : (Value.slice A n c).ownBlock ≠ some gb := fun e => by have := (ho.lt gb e).1; omega
  have hr1 := (HB.out.alloc (.cells #[.slice A0 n0 c0] 22)).of_block (ht1.block (b := gb) (by simp; omega) hne)
  have hc1 := hr1.cell (i := 6) (by omega)
  have hc2 := hr1.frozen 6
  have hbut : But (fun k => k = gb ∨ (Value.slice A n c).ownBlock = some k) w w1 := ht1.but ((But.refl _ _).alloc _) (fun k hk _ => .inr hk)
  have hrow : ∀ b, v1.ownBlock = some b → (Value.slice A n c).ownBlock = some b ∨ w.heap.size ≤ b := fun b hb => by
    rcases ht1 with ⟨e, _⟩ | ⟨e, _⟩
    · exact .inl (by rw [← e]; exact hb)
    · rw [e] at hb; injection hb with hb; right; rw [← hb]; simp only [World.size_alloc]; omega
  have hbel : Below gb w w1 := (Below.alloc (Below.refl _ _) (by omega) _).grown ht1.grown (by simp; omega) (fun k hk => by have := (ho.lt k hk).1; omega)
  clear ht1
  obtain ⟨A1, c1, rfl, hn1, hm1⟩ := own_shape hown1
  go_wp2_with fail
  go_end0
  refine ⟨rfl, _, hr1.set 6 (.slice A1 (n + 1) c1), fun k hk => if_neg hk, ?_, ?_, ?_⟩
  · rw [if_pos rfl]
    exact ownsRow_setCell_below hown1 (by show gb < base; exact hgb) _
  · rw [hf]; exact hbut.setCell (.inl rfl) _
  · rw [if_pos rfl, hf]; exact hrow
end Go.Proofs.YtjklecncdinabaaGreatDoor.B
