/- Placed sites in their order: the comparison, plain; the sort's world. -/
import Derived.Test.YthonnpjlkcjoeaaDoorSortQ
import Derived.Test.YthonnpjlkcjoeaaDoorBag
namespace Go.Proofs.YthonnpjlkcjoeaaDoor.La
open Go.RowKit Go.Proofs.YthonnpjlkcjoeaaDoor.B Go.Op Go.Lib
open Go.Sort (grow grow_empty grow_grow alloc_eq_grow SWO PermIn SortedIn)
open Go.Shelf
set_option linter.unusedSimpArgs false
set_option linter.unusedVariables false

theorem cmpS_neg {a b : ByteArray} : cmpS a b < 0 ↔ bytesLess a.toList b.toList = true := by
  unfold cmpS
  by_cases h1 : bytesLess a.toList b.toList = true
  · simp [h1]
  · rw [if_neg h1]
    constructor
    · split <;> omega
    · intro h; exact absurd h h1
theorem cmpS_zero {a b : ByteArray} : cmpS a b = 0 ↔ a = b := by
  unfold cmpS
  by_cases h1 : bytesLess a.toList b.toList = true
  · rw [if_pos h1]
    constructor
    · omega
    · intro h; subst h; rw [less_irrefl] at h1; cases h1
  · rw [if_neg h1]
    by_cases h2 : a = b
    · subst h2; simp
    · have h3 : (a.toList == b.toList) = false := by
        cases h : a.toList == b.toList with
        | false => rfl
        | true => exact absurd (mo_ext (by simpa using h)) h2
      have h4 : bytesLess a.toList b.toList = false := by simpa using h1
      rw [h3, h4]
      simp [h2]
theorem cmpI_neg {a b : Int} : Lib.compareInt a b < 0 ↔ a < b := by
  unfold Lib.compareInt
  by_cases h1 : a < b
  · simp [h1]
  · by_cases h2 : b < a <;> simp [h1, h2]
theorem cmpI_zero {a b : Int} : Lib.compareInt a b = 0 ↔ a = b := by
  unfold Lib.compareInt
  by_cases h1 : a < b
  · simp [h1]; omega
  · by_cases h2 : b < a
    · simp [h1, h2]; omega
    · simp [h1, h2]; omega
theorem or_neg (c : Int) (l : List Int) : orI (c :: l) < 0 ↔ c < 0 ∨ c = 0 ∧ orI l < 0 := by
  show (if c = 0 then orI l else c) < 0 ↔ _
  split <;> omega
theorem cmpP_lt (x y : Site × Int) : decide (cmpP x y < 0) = pLt x y := by
  have h : cmpP x y < 0 ↔ pLt x y = true := by
    unfold cmpP
    rw [or_neg, or_neg, or_neg, or_neg, or_neg, cmpS_neg, cmpS_zero, cmpI_neg, cmpI_zero, cmpI_neg, cmpI_zero, cmpI_neg, cmpI_zero, cmpI_neg, cmpI_zero]
    have h0 : ¬ orI [] < 0 := by decide
    unfold pLt
    by_cases m : x.1.mo = y.1.mo
    · have hm : bytesLess x.1.mo.toList y.1.mo.toList = false := by rw [m]; exact less_irrefl _
      rw [hm]
      by_cases l : x.1.li = y.1.li
      · by_cases c : x.1.co = y.1.co
        · by_cases r : x.1.ru = y.1.ru
          · simp [m, l, c, r, h0]
          · simp [m, l, c, r, h0]
        · simp [m, l, c, h0]
      · simp [m, l, h0]
    · simp [m]
  cases hp : pLt x y with
  | true => simpa using h.2 hp
  | false =>
    have : ¬ cmpP x y < 0 := fun hc => by rw [h.1 hc] at hp; cases hp
    simpa using this
theorem ltOf_pLt : ltOf cmpP = pLt := by
  funext x y
  exact cmpP_lt x y
theorem pLt_same {x y z : Site × Int} (h : x.2 = y.2 ∧ x.1.mo = y.1.mo ∧ x.1.li = y.1.li ∧ x.1.co = y.1.co ∧ x.1.ru = y.1.ru) : pLt x z = pLt y z := by
  unfold pLt
  rw [h.1, h.2.1, h.2.2.1, h.2.2.2.1, h.2.2.2.2]
theorem swoP : SWO (ltOf cmpP) := by
  rw [ltOf_pLt]
  refine ⟨pLt_irrefl, fun x y z => pLt_trans, fun x y z h1 h2 => ?_⟩
  cases h3 : pLt x z with
  | false => rfl
  | true =>
    cases h4 : pLt y x with
    | true => have := pLt_trans h4 h3; rw [h2] at this; cases this
    | false => rw [pLt_same (pLt_tri h1 h4), h2] at h3; cases h3

instance : Inhabited Site := ⟨⟨⟨#[]⟩, ⟨#[]⟩, 0, 0, 0⟩⟩

theorem sortW_below (W : World) (blk off n : Nat) (d : Array (Site × Int)) (os : Array Obj) : But (fun k => k = blk) W (sortWorldK encP 6 W blk off n d os) := by
  refine ⟨rfl, rfl, rfl, ?_, fun k hk hb => ?_⟩
  · exact size_sortWorldK_c encP 6 W blk off n d os
  · show ((_root_.Go.Sort.putRowK encP 6 (Sort.ahead W n) blk off d).heap ++ os)[k]? = _
    rw [Array.getElem?_append_left (by rw [_root_.Go.Sort.size_putRowK]; exact hk)]
    show (W.heap.modify blk _)[k]? = _
    rw [Array.getElem?_modify, if_neg (fun h => hb h.symm)]

theorem cmpLaysP (blk off size : Nat) (w : World) : CmpLays Tryd.prog 48 #[] encP 6 cmpP blk off size w :=
  fun _ _ _ _ x y => ahead_any x y _

def placedL (l : List Site) : List (Site × Int) := l.mapIdx fun i s => (s, (i : Int) + 1)
def cellsP (L : List (Site × Int)) : List Value := L.flatMap encP
theorem placed_len (l : List Site) : (placedL l).length = l.length := by simp [placedL]
theorem placed_at {l : List Site} {k : Nat} {s : Site} (h : l[k]? = some s) : (placedL l)[k]? = some (s, (k : Int) + 1) := by simp [placedL, h]
theorem cellsP_next {l : List Site} {k : Nat} {s : Site} (h : l[k]? = some s) : cellsP ((placedL l).take (k + 1)) = cellsP ((placedL l).take k) ++ encP (s, (k : Int) + 1) := by
  unfold cellsP; rw [List.take_add_one, placed_at h]; simp
theorem cellsP_len (L : List (Site × Int)) : (cellsP L).length = L.length * 6 := by
  induction L with
  | nil => rfl
  | cons x L ih => simp only [cellsP, List.flatMap_cons, List.length_append, List.length_cons] at *; rw [ih]; simp [encP]; omega
theorem cellsP_at (L : List (Site × Int)) : ∀ (k : Nat) (x : Site × Int) (j : Nat), L[k]? = some x → j < 6 → (cellsP L)[k * 6 + j]? = (encP x)[j]? := by
  induction L with
  | nil => intro k x j h; simp at h
  | cons y L ih =>
    intro k x j h hj
    have hl : (encP y).length = 6 := rfl
    cases k with
    | zero =>
      simp at h; subst h
      simp only [cellsP, List.flatMap_cons]
      rw [List.getElem?_append_left (by omega)]; simp
    | succ k =>
      simp at h
      have := ih k x j h hj
      simp only [cellsP, List.flatMap_cons] at *
      rw [List.getElem?_append_right (by omega)]
      rw [hl, show (k + 1) * 6 + j - 6 = k * 6 + j by omega]; exact this

/-- The site of a label. -/
def siteOf (l : List Site) (k : Nat) : Site := l.getD (k - 1) default
theorem placed_mem {l : List Site} {x : Site × Int} (h : x ∈ placedL l) : x = (siteOf l x.2.toNat, (x.2.toNat : Int)) ∧ 1 ≤ x.2.toNat := by
  obtain ⟨i, hi, rfl⟩ := List.mem_iff_getElem.1 h
  rw [placed_len] at hi
  have e : (placedL l)[i]'(by rw [placed_len]; exact hi) = (l[i], (i : Int) + 1) := by simp [placedL]
  rw [e]
  have e2 : ((i : Int) + 1).toNat = i + 1 := by omega
  simp only [e2]
  refine ⟨?_, by omega⟩
  unfold siteOf
  rw [Nat.add_sub_cancel, List.getD_eq_getElem?_getD, List.getElem?_eq_getElem hi]
  simp
theorem placed_labels (l : List Site) : (placedL l).map (fun x => x.2.toNat) = (List.range l.length).map (· + 1) := by
  apply List.ext_getElem
  · simp [placed_len]
  · intro i h1 h2
    simp [placedL]
theorem sort_labels {l : List Site} {d : List (Site × Int)} (hp : d.Perm (placedL l)) (hs : d.Pairwise fun x y => pLt y x = false) :
    d.map (·.2) = (byIns (siteOf l) l.length).map fun (k : Nat) => (k : Int) := by
  have hm : ∀ x ∈ d, x = (siteOf l x.2.toNat, (x.2.toNat : Int)) := fun x hx => (placed_mem (hp.mem_iff.1 hx)).1
  have hL : (d.map fun x => x.2.toNat).Perm ((List.range l.length).map (· + 1)) := by rw [← placed_labels]; exact hp.map _
  have hnd : (d.map fun x => x.2.toNat).Nodup := hL.nodup_iff.2 (by
    rw [List.nodup_iff_pairwise_ne, List.pairwise_map]
    exact List.Pairwise.imp (fun h => by omega) List.nodup_range)
  have hsort : (d.map fun x => x.2.toNat).Pairwise (kLt (siteOf l)) := by
    rw [List.pairwise_map]
    rw [List.nodup_iff_pairwise_ne, List.pairwise_map] at hnd
    rw [List.pairwise_iff_getElem] at hs hnd ⊢
    intro i j hi hj hij
    have h1 := hs i j hi hj hij
    have h2 := hnd i j hi hj hij
    have ex := hm _ (List.getElem_mem hi)
    have ey := hm _ (List.getElem_mem hj)
    unfold kLt
    rw [← ex, ← ey]
    cases h3 : pLt d[i] d[j] with
    | true => rfl
    | false =>
      have h4 := (pLt_tri h3 h1).1
      exfalso; apply h2; rw [h4]
  rw [← sorted_one hL hsort, List.map_map]
  apply List.map_congr_left
  intro x hx
  have := hm x hx
  exact congrArg Prod.snd this
end Go.Proofs.YthonnpjlkcjoeaaDoor.La
