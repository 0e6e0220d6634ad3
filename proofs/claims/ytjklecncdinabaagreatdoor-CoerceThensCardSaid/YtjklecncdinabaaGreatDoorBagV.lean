/- A bag that was just made; lists of one's own that lie apart. -/
import Derived.Test.YtjklecncdinabaaGreatDoorBagAZ
namespace Go.Proofs.YtjklecncdinabaaGreatDoor.B
open Go.RowKit
set_option linter.unusedVariables false

abbrev nilV : Value := .slice none 0 0
abbrev bagCells : Array Value := #[nilV, nilV, nilV, nilV, nilV, nilV, nilV, nilV, nilV, nilV, nilV, nilV, nilV, nilV, nilV, nilV, nilV, nilV]
theorem bagCells_at (i : Nat) (h : i < bagCells.size) : bagCells[i]? = some nilV := by
  have h' : i < 18 := h
  rcases i with _|_|_|_|_|_|_|_|_|_|_|_|_|_|_|_|_|_|i
  all_goals first | rfl | omega
theorem bag_new (w : World) (T : TypeId) : (w.alloc (.cells bagCells T)).rowIs w.heap.size T 18 (fun _ => nilV) := World.rowIs_alloc w bagCells T _ bagCells_at

/-- The block of a slice lies from lo on, below hi. -/
def In (lo hi : Nat) (v : Value) : Prop := ∀ b, v.ownBlock = some b → lo ≤ b ∧ b < hi
theorem In.of_own {w : World} {base : Nat} {e : TypeId} {sz : Nat} {v : Value} {n : Nat} {xs : List Value} (h : w.ownsRow base e sz v n xs) : In base w.heap.size v := h.lt
theorem In.ap {a b c d : Nat} {u v : Value} (h : In a b u) (k : In c d v) (hbc : b ≤ c) : Ap u v := fun x hx hy => by
  have := h x hx; have := k x hy; omega
theorem own_keep {w w' : World} {base B : Nat} {e : TypeId} {sz : Nat} {v : Value} {n : Nat} {xs : List Value} (h : w.ownsRow base e sz v n xs) (hb : Below B w w') (hB : ∀ b, v.ownBlock = some b → b < B) : w'.ownsRow base e sz v n xs := by
  refine ⟨h.1, ?_⟩
  rcases h.2 with h2 | ⟨g, cap, cur, rfl, hbg, hg, r⟩
  · exact .inl h2
  · exact .inr ⟨g, cap, cur, rfl, hbg, (hb.block g (hB g rfl)).trans hg, r⟩
theorem fin4 {P : Nat → Prop} (h0 : P 0) (h1 : P 1) (h2 : P 2) (h3 : P 3) : ∀ m, m < 4 → P m := by
  intro m hm
  rcases m with _|_|_|_|m
  all_goals first | assumption | omega
theorem fin2 {P : Nat → Prop} (h0 : P 0) (h1 : P 1) : ∀ m, m < 2 → P m := by
  intro m hm
  rcases m with _|_|m
  all_goals first | assumption | omega
theorem ap4 {v : Nat → Value} (h01 : Ap (v 0) (v 1)) (h02 : Ap (v 0) (v 2)) (h03 : Ap (v 0) (v 3)) (h12 : Ap (v 1) (v 2)) (h13 : Ap (v 1) (v 3)) (h23 : Ap (v 2) (v 3)) : ∀ i j, i < 4 → j < 4 → i ≠ j → Ap (v i) (v j) := by
  intro i j hi hj hne
  rcases i with _|_|_|_|i <;> rcases j with _|_|_|_|j
  all_goals first | assumption | omega | exact Ap.symm h01 | exact Ap.symm h02 | exact Ap.symm h03 | exact Ap.symm h12 | exact Ap.symm h13 | exact Ap.symm h23
theorem ap2 {v : Nat → Value} (h01 : Ap (v 0) (v 1)) : ∀ i j, i < 2 → j < 2 → i ≠ j → Ap (v i) (v j) := by
  intro i j hi hj hne
  rcases i with _|_|i <;> rcases j with _|_|j
  all_goals first | assumption | omega | exact Ap.symm h01
end Go.Proofs.YtjklecncdinabaaGreatDoor.B
