/- Parts of this claim: CfC. -/
import Derived.Test.YtobplngonkdbpaaGreatDoorP11
set_option linter.unusedVariables false
set_option linter.unusedSimpArgs false
/- CfC -/
namespace Go.Proofs.YtobplngonkdbpaaGreatDoor.D
open Go.RowKit
open Go.Proofs.YtobplngonkdbpaaGreatDoor.B
set_option linter.unusedVariables false
set_option linter.unusedSimpArgs false

/-- A row of one element, just made. -/
theorem Sl.fresh (w : World) (xs : List Value) (sz : Nat) (T : TypeId) (h : xs.length = sz) : Sl (w.alloc (.cells xs.toArray T)) (w.heap.size + 1) sz (some ⟨w.heap.size, 0, none⟩) 1 xs := by
  refine ⟨by omega, .inr ⟨w.heap.size, 0, rfl, by simp, fun j u hu => ?_⟩⟩
  rw [Nat.zero_add, World.cell?_alloc_new]
  simpa using hu
theorem lt_same {W W' : World} {b : Nat} (h : W'.heap[b]? = W.heap[b]?) (hb : b < W.heap.size) : b < W'.heap.size := by
  rw [Array.getElem?_eq_getElem hb] at h
  exact (Array.getElem?_eq_some_iff.1 h).1
theorem allV_snoc {α : Type} (f : Bs → Option α) (x : Bs) : ∀ l : List Bs, allV f (l ++ [x]) = (match allV f l, f x with | some a, some b => some (a ++ [b]) | _, _ => none)
  | [] => by
    rw [List.nil_append, allV, allV]
    rcases f x with _ | b <;> rfl
  | w :: l => by
    rw [List.cons_append, allV, allV, allV_snoc f x l]
    rcases f w with _ | a
    · rfl
    · rcases allV f l with _ | q
      · rfl
      · rcases f x with _ | b <;> rfl
theorem allV_is {α : Type} (f : Bs → Option α) (x : Bs) (l : List Bs) : (allV f (l ++ [x])).isSome = ((allV f l).isSome && (f x).isSome) := by
  rw [allV_snoc]
  rcases allV f l with _ | a <;> rcases f x with _ | b <;> rfl
theorem allV_last {α : Type} {f : Bs → Option α} {x : Bs} {l : List Bs} {q : List α} (h : allV f (l ++ [x]) = some q) : ∃ a b, allV f l = some a ∧ f x = some b ∧ q = a ++ [b] := by
  rw [allV_snoc] at h
  rcases h1 : allV f l with _ | a
  · rw [h1] at h; cases h
  rcases h2 : f x with _ | b
  · rw [h1, h2] at h; cases h
  rw [h1, h2] at h
  injection h with h
  exact ⟨a, b, rfl, rfl, h.symm⟩
noncomputable def castIt (f t : Bs) (cs : List Bs) : Option Item := match unq f, unq t, allV ndV cs with
  | some f, some t, some l => some (.cast f t l)
  | _, _, _ => none
theorem castIt_is (f t : Bs) (cs : List Bs) : (castIt f t cs).isSome = ((unq f).isSome && (unq t).isSome && (allV ndV cs).isSome) := by
  unfold castIt
  rcases unq f with _ | a <;> rcases unq t with _ | b <;> rcases allV ndV cs with _ | l <;> rfl
theorem castIt_some {f t f' t' : Bs} {cs : List Bs} {D : List Nd} (hf : ∀ v, unq f = some v → f' = v) (ht : ∀ v, unq t = some v → t' = v) (hd : ∀ l, allV ndV cs = some l → D = l) (i : Item) (h : castIt f t cs = some i) : i = .cast f' t' D := by
  unfold castIt at h
  rcases h1 : unq f with _ | a
  · rw [h1] at h; cases h
  rcases h2 : unq t with _ | b
  · rw [h1, h2] at h; cases h
  rcases h3 : allV ndV cs with _ | l
  · rw [h1, h2, h3] at h; cases h
  rw [h1, h2, h3] at h
  injection h with h
  rw [← h, hf a h1, ht b h2, hd l h3]
section
variable {w w3 w4 : World} {r st B b : Nat} {L : CoL} {V V' : Value} {f t : Bs} {D : List Nd} {E : List Bs}
theorem RAt.cast (h : RAt w3 r L st) (hx : w3.ownsRow b 86 7 V D.length (cosC D)) (hb : r + 1 ≤ b) (hf : ∀ x ∈ L.rws, Ap x.v V) (ht : Tch w3 w4 L.cv.ownBlock V'.ownBlock)
    (ho : w4.ownsRow (r + 1) 84 3 V' (L.casts.length + 1) (L.casts.flatMap WtL.cells ++ [strV f, strV t, V])) :
    RAt (w4.setCell ⟨r, 1, none⟩ V') r { L with casts := L.casts ++ [⟨⟨f, t, D⟩, V⟩], cv := V' } st := by
  have h1 : Own w3 (r + 1) (L.rws ++ [] ) := by rw [List.append_nil]; exact h.own
  have h2 := h1.add (r := ⟨86, 7, V, D.length, cosC D⟩) (own_base hx hb) (fun x hx => hf x (by rcases hx with hx | hx; exact hx; cases hx))
  have h3 : Own w4 (r + 1) ([rowF L] ++ rowC { L with casts := L.casts ++ [⟨⟨f, t, D⟩, V⟩], cv := V' } :: (rowN L :: rowT L :: rowY L :: (rowR L ++ [⟨86, 7, V, D.length, cosC D⟩]))) := by
    refine Own.touch (w := w3) (r := rowC L) ?_ ht (by simpa [rowC, WtL.cells] using ho)
    simpa [rws_eq] using h2
  refine ⟨(h.far (rowC_in L) ht).set_ 1 V', ?_⟩
  refine RAt.low ?_ 1 V'
  have e : CoL.rws { L with casts := L.casts ++ [⟨⟨f, t, D⟩, V⟩], cv := V' } = [rowF L] ++ rowC { L with casts := L.casts ++ [⟨⟨f, t, D⟩, V⟩], cv := V' } :: (rowN L :: rowT L :: rowY L :: (rowR L ++ [⟨86, 7, V, D.length, cosC D⟩])) := by
    rw [rws_eq]; simp [rowF, rowN, rowT, rowY, rowR, WtL.rw]
  rw [e]; exact h3
theorem RAt.func (h : RAt w3 r L st) (hx : w3.ownsRow b 9 1 V E.length (envC E)) (hb : r + 1 ≤ b) (hf : ∀ x ∈ L.rws, Ap x.v V) (ht : Tch w3 w4 L.fv.ownBlock V'.ownBlock)
    (ho : w4.ownsRow (r + 1) 90 4 V' (L.fns.length + 1) (L.fns.flatMap FuL.cells ++ [V, strV f, strV t, .slice none 0 0])) :
    RAt (w4.setCell ⟨r, 0, none⟩ V') r { L with fns := L.fns ++ [⟨V, ⟨E, f, t, []⟩, .slice none 0 0⟩], fv := V' } st := by
  obtain ⟨Z, hZ⟩ : ∃ Z, [rowF L, rowC L, rowN L, rowT L, rowY L] ++ L.fns.flatMap FuL.rws = Z := ⟨_, rfl⟩
  have h0 : Own w3 (r + 1) (Z ++ L.casts.map WtL.rw) := by rw [← hZ]; simpa [rws_eq, rowR] using h.own
  have hz : ∀ x, x ∈ Z ∨ x ∈ L.casts.map WtL.rw → x ∈ L.rws := by
    intro x hx
    rw [← hZ] at hx
    rw [rws_eq]
    simpa [rowR, or_assoc] using hx
  have h2 := h0.add (r := ⟨9, 1, V, E.length, envC E⟩) (own_base hx hb) (fun x hx => hf x (hz x hx))
  have h2' : Own w3 (r + 1) ((Z ++ [⟨9, 1, V, E.length, envC E⟩]) ++ L.casts.map WtL.rw) := by simpa using h2
  have h22 := h2'.add (r := ⟨92, 3, .slice none 0 0, 0, []⟩) (World.ownsRow_nil _ _ _ _) (fun x hx => (Ap.nil x.v).symm)
  have h3 : Own w4 (r + 1) ([] ++ rowF { L with fns := L.fns ++ [⟨V, ⟨E, f, t, []⟩, .slice none 0 0⟩], fv := V' } :: (rowC L :: rowN L :: rowT L :: rowY L :: (L.fns.flatMap FuL.rws ++ ⟨9, 1, V, E.length, envC E⟩ :: ⟨92, 3, .slice none 0 0, 0, []⟩ :: L.casts.map WtL.rw))) := by
    refine Own.touch (w := w3) (r := rowF L) ?_ ht (by simpa [rowF, FuL.cells] using ho)
    rw [← hZ] at h22
    simpa using h22
  refine ⟨(h.far (rowF_in L) ht).set_ 0 V', ?_⟩
  refine RAt.low ?_ 0 V'
  have e : CoL.rws { L with fns := L.fns ++ [⟨V, ⟨E, f, t, []⟩, .slice none 0 0⟩], fv := V' } = [] ++ rowF { L with fns := L.fns ++ [⟨V, ⟨E, f, t, []⟩, .slice none 0 0⟩], fv := V' } :: (rowC L :: rowN L :: rowT L :: rowY L :: (L.fns.flatMap FuL.rws ++ ⟨9, 1, V, E.length, envC E⟩ :: ⟨92, 3, .slice none 0 0, 0, []⟩ :: L.casts.map WtL.rw)) := by
    rw [rws_eq]; simp [rowC, rowN, rowT, rowY, rowR, FuL.rws, codC]
  rw [e]; exact h3
end
end Go.Proofs.YtobplngonkdbpaaGreatDoor.D
