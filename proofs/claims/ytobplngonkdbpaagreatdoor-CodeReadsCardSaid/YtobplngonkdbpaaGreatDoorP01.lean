/- Parts of this claim: CdS, CdT, CdU. -/
import Derived.Test.YtobplngonkdbpaaGreatDoorP00
set_option linter.unusedVariables false
set_option linter.unusedSimpArgs false
/- CdS -/
namespace Go.Proofs.YtobplngonkdbpaaGreatDoor.D
open Go Go.Lib
set_option linter.unusedVariables false
set_option linter.unusedSimpArgs false

structure In where
  op : Int
  a : Int
  b : Int
structure Fu where
  env : List Bs
  param : Bs
  res : Bs
  code : List In
structure Wt where
  f : Bs
  t : Bs
  co : List Nd
structure Cod where
  fns : List Fu
  casts : List Wt
  nums : List Int
  texts : List Bs
  types : List Bs
def Cod.nil : Cod := ⟨[], [], [], [], []⟩
def In.ok (i : In) : Prop := -128 ≤ i.op ∧ i.op ≤ 127 ∧ inR i.a ∧ inR i.b
def Cod.ok (c : Cod) : Prop := (∀ f ∈ c.fns, ∀ i ∈ f.code, i.ok) ∧ (∀ w ∈ c.casts, ∀ n ∈ w.co, n.ok) ∧ ∀ n ∈ c.nums, inR n
def fuItems (f : Fu) : List Item := .fn f.env f.param f.res :: f.code.map fun i => .ins i.op i.a i.b
/-- The items of code, in order. -/
def items (c : Cod) : List Item := c.nums.map .num ++ (c.texts.map .text ++ (c.types.map .type ++ (c.casts.map (fun w => .cast w.f w.t w.co) ++ c.fns.flatMap fuItems)))
def showI (l : List Item) : Bs := l.flatMap fun it => itemL it ++ [10]
def showV (c : Cod) : Bs := showI (items c)
def stageI : Item → Nat
  | .num _ => 1
  | .text _ => 2
  | .type _ => 3
  | .cast _ _ _ => 4
  | .fn _ _ _ => 5
  | .ins _ _ _ => 5
/-- An instruction more, in the last function. -/
def addIn (l : List Fu) (i : In) : List Fu := match l.reverse with
  | [] => []
  | f :: r => (r.reverse ++ [{ f with code := f.code ++ [i] }])
def addI (c : Cod) : Item → Cod
  | .num n => { c with nums := c.nums ++ [n] }
  | .text s => { c with texts := c.texts ++ [s] }
  | .type s => { c with types := c.types ++ [s] }
  | .cast f t cs => { c with casts := c.casts ++ [⟨f, t, cs⟩] }
  | .fn e p r => { c with fns := c.fns ++ [⟨e, p, r, []⟩] }
  | .ins o a b => { c with fns := addIn c.fns ⟨o, a, b⟩ }
def isIns : Item → Bool
  | .ins _ _ _ => true
  | _ => false
open Classical in
/-- One item more, if it may stand there. -/
noncomputable def stepI (st : Nat × Cod) (it : Item) : Option (Nat × Cod) := if (isIns it = true → st.2.fns ≠ []) ∧ st.1 ≤ stageI it then some (stageI it, addI st.2 it) else none
noncomputable def stepV (st : Nat × Cod) (l : Bs) : Option (Nat × Cod) := match lineV l with
  | some it => stepI st it
  | none => none
/-- The first line, what stands behind its end. -/
def lineC : Bs → Option (Bs × Bs)
  | [] => none
  | c :: r => if c.toNat = 10 then some ([], r) else match lineC r with
    | some p => some (c :: p.1, p.2)
    | none => none
theorem lineC_len : ∀ (l : Bs) (p : Bs × Bs), lineC l = some p → p.2.length < l.length
  | [], p, h => by simp [lineC] at h
  | c :: r, p, h => by
    rw [lineC] at h
    split at h
    · injection h with h; rw [← h]; simp
    · split at h
      · rename_i q hq
        injection h with h
        rw [← h]
        have := lineC_len r q hq
        simp; omega
      · cases h
theorem lineC_eq : ∀ (l : Bs) (p : Bs × Bs), lineC l = some p → p.1 ++ 10 :: p.2 = l ∧ ∀ x ∈ p.1, x.toNat ≠ 10
  | [], p, h => by simp [lineC] at h
  | c :: r, p, h => by
    rw [lineC] at h
    split at h
    · rename_i hc
      injection h with h; rw [← h]
      exact ⟨by rw [List.nil_append, show c = 10 from UInt8.toNat_inj.1 hc], by simp⟩
    · rename_i hc
      split at h
      · rename_i q hq
        injection h with h
        rw [← h]
        obtain ⟨h1, h2⟩ := lineC_eq r q hq
        refine ⟨by rw [List.cons_append, h1], fun x hx => ?_⟩
        rcases List.mem_cons.1 hx with rfl | hx
        · exact hc
        · exact h2 x hx
      · cases h
theorem lineC_of : ∀ (l r : Bs), (∀ x ∈ l, x.toNat ≠ 10) → lineC (l ++ 10 :: r) = some (l, r)
  | [], r, _ => by rw [List.nil_append, lineC, if_pos (by decide)]
  | c :: l, r, h => by rw [List.cons_append, lineC, if_neg (h c (by simp)), lineC_of l r (fun x hx => h x (by simp [hx]))]
/-- Lines read: the state, or the line that cannot stand there. -/
noncomputable def runV (t : Bs) (st : Nat × Cod) (n : Nat) : (Option (Nat × Cod)) × Nat :=
  if t = [] then (some st, 0) else
  match h : lineC t with
  | none => (none, n)
  | some (l, r) => match stepV st l with
    | none => (none, n)
    | some st' => runV r st' (n + 1)
termination_by t.length
decreasing_by have := lineC_len _ _ h; simpa using this
noncomputable def readV (t : Bs) : (Option (Nat × Cod)) × Nat := runV t (0, .nil) 1
theorem runV_nil (st : Nat × Cod) (n : Nat) : runV [] st n = (some st, 0) := by rw [runV, if_pos rfl]
theorem runV_none {t : Bs} (ht : t ≠ []) (h : lineC t = none) (st : Nat × Cod) (n : Nat) : runV t st n = (none, n) := by
  rw [runV, if_neg ht]
  split
  · rfl
  · rename_i l r h2; rw [h] at h2; cases h2
theorem runV_some {t l r : Bs} (h : lineC t = some (l, r)) (st : Nat × Cod) (n : Nat) : runV t st n = match stepV st l with
    | none => (none, n)
    | some st' => runV r st' (n + 1) := by
  have ht : t ≠ [] := by rintro rfl; simp [lineC] at h
  rw [runV, if_neg ht]
  split
  · rename_i h2; rw [h] at h2; cases h2
  · rename_i l' r' h2
    rw [h] at h2
    injection h2 with h2
    injection h2 with h3 h4
    subst h3 h4
    rfl

/-! ### Lines of items -/
theorem goodW_line {w : Bs} : True := trivial
theorem quote_no10 {s : Bs} : ∀ x ∈ quoteL s, x.toNat ≠ 10 := by
  intro x hx
  rcases List.mem_cons.1 hx with rfl | hx
  · decide
  · rcases List.mem_append.1 hx with hx | hx
    · have := inner_chars x hx; omega
    · rw [List.mem_singleton.1 hx]; decide
theorem itoa_no10 {n : Int} : ∀ x ∈ itoa n, x.toNat ≠ 10 := fun x hx => by have := itoa_chars x hx; omega
theorem word_no10 (it : Item) : ∀ w ∈ itemWs it, ∀ x ∈ w, x.toNat ≠ 10 := by
  intro w hw
  cases it with
  | num n =>
    simp only [itemWs, List.mem_cons, List.not_mem_nil, or_false] at hw
    rcases hw with rfl | rfl
    · decide
    · exact itoa_no10
  | text s =>
    simp only [itemWs, List.mem_cons, List.not_mem_nil, or_false] at hw
    rcases hw with rfl | rfl
    · decide
    · exact quote_no10
  | type s =>
    simp only [itemWs, List.mem_cons, List.not_mem_nil, or_false] at hw
    rcases hw with rfl | rfl
    · decide
    · exact quote_no10
  | cast f t cs =>
    simp only [itemWs, List.mem_cons] at hw
    rcases hw with rfl | rfl | rfl | hw
    · decide
    · exact quote_no10
    · exact quote_no10
    · obtain ⟨c, _, rfl⟩ := List.mem_map.1 hw
      intro x hx; have := ndW_chars x hx; omega
  | fn env p q =>
    simp only [itemWs, List.mem_cons, List.mem_append, List.not_mem_nil, or_false] at hw
    rcases hw with rfl | hw | rfl | rfl | rfl
    · decide
    · obtain ⟨s, _, rfl⟩ := List.mem_map.1 hw
      exact quote_no10
    · decide
    · exact quote_no10
    · exact quote_no10
  | ins op a b =>
    simp only [itemWs, List.mem_cons, List.not_mem_nil, or_false] at hw
    rcases hw with rfl | rfl | rfl | rfl
    · simp
    · intro x hx; have := opW_chars x hx; omega
    · exact itoa_no10
    · exact itoa_no10
theorem item_no10 (it : Item) : ∀ x ∈ itemL it, x.toNat ≠ 10 := by
  intro x hx
  rcases joinC_mem 32 _ x hx with rfl | ⟨w, hw, hx⟩
  · decide
  · exact word_no10 it w hw x hx
theorem item_line_ne (it : Item) : itemL it ≠ [] := by
  unfold itemL
  cases it with
  | num n => simp [itemWs, joinC]
  | text s => simp [itemWs, joinC]
  | type s => simp [itemWs, joinC]
  | cast f t cs => cases cs <;> simp [itemWs, joinC]
  | fn env p q => cases env <;> simp [itemWs, joinC]
  | ins op a b => simp [itemWs, joinC]
noncomputable def runI : List Item → Nat × Cod → Option (Nat × Cod)
  | [], st => some st
  | it :: r, st => match stepI st it with
    | some st' => runI r st'
    | none => none
theorem runV_show : ∀ (l : List Item) (st st' : Nat × Cod) (n : Nat), (∀ it ∈ l, it.ok) → runI l st = some st' → runV (showI l) st n = (some st', 0)
  | [], st, st', n, _, h => by simp only [runI] at h; injection h with h; rw [h]; exact runV_nil _ _
  | it :: r, st, st', n, hok, h => by
    rw [runI] at h
    split at h
    · rename_i s1 hs
      have e : lineC (showI (it :: r)) = some (itemL it, showI r) := by
        show lineC ((itemL it ++ [10]) ++ showI r) = _
        rw [List.append_assoc]
        exact lineC_of _ _ (item_no10 it)
      rw [runV_some e]
      have e2 : stepV st (itemL it) = some s1 := by unfold stepV; rw [lineV_item (hok it (by simp))]; exact hs
      rw [e2]
      exact runV_show r s1 st' (n + 1) (fun i hi => hok i (by simp [hi])) h
    · cases h
theorem runI_append : ∀ (a b : List Item) (st : Nat × Cod), runI (a ++ b) st = match runI a st with
    | some s => runI b s
    | none => none
  | [], b, st => rfl
  | it :: a, b, st => by
    rw [List.cons_append, runI, runI]
    split
    · exact runI_append a b _
    · rfl

/-! ### What is told is read -/
theorem runI_map {α : Type} (f : α → Item) (g : Cod → List α → Cod) (k : Nat) (hs : ∀ a, stageI (f a) = k) (hi : ∀ a, isIns (f a) = false) (hg : ∀ c a, addI c (f a) = g c [a]) (hgg : ∀ c a l, g (g c [a]) l = g c (a :: l)) (hg0 : ∀ c, g c [] = c) :
    ∀ (l : List α) (st : Nat × Cod), st.1 ≤ k → ∃ k', k' ≤ k ∧ st.1 ≤ k' ∧ runI (l.map f) st = some (k', g st.2 l)
  | [], st, h => ⟨st.1, h, Nat.le_refl _, by rw [List.map_nil, runI, hg0]⟩
  | a :: l, st, h => by
    rw [List.map_cons, runI]
    have e : stepI st (f a) = some (k, g st.2 [a]) := by
      unfold stepI
      rw [if_pos ⟨fun h2 => (by rw [hi] at h2; cases h2), (by rw [hs]; exact h)⟩, hs, hg]
    rw [e]
    obtain ⟨k', h1, h2, h3⟩ := runI_map f g k hs hi hg hgg hg0 l (k, g st.2 [a]) (Nat.le_refl _)
    exact ⟨k', h1, Nat.le_trans h h2, by simp only; rw [h3]; simp only [hgg]⟩
theorem addIn_last (l : List Fu) (f : Fu) (i : In) : addIn (l ++ [f]) i = l ++ [{ f with code := f.code ++ [i] }] := by
  unfold addIn
  rw [List.reverse_append, List.reverse_cons, List.reverse_nil, List.nil_append, List.singleton_append]
  simp
theorem runI_code : ∀ (is : List In) (c : Cod) (l : List Fu) (f : Fu), c.fns = l ++ [f] → runI (is.map fun i => Item.ins i.op i.a i.b) (5, c) = some (5, { c with fns := l ++ [{ f with code := f.code ++ is }] })
  | [], c, l, f, h => by simp [runI, ← h]
  | i :: is, c, l, f, h => by
    rw [List.map_cons, runI]
    have e : stepI (5, c) (.ins i.op i.a i.b) = some (5, { c with fns := l ++ [{ f with code := f.code ++ [i] }] }) := by
      unfold stepI
      rw [if_pos ⟨fun _ => by simp [h], Nat.le_refl _⟩]
      simp only [stageI, addI]
      rw [h, addIn_last]
    rw [e]
    simp only
    rw [runI_code is { c with fns := l ++ [{ f with code := f.code ++ [i] }] } l { f with code := f.code ++ [i] } rfl]
    simp
theorem runI_fns : ∀ (fs : List Fu) (st : Nat × Cod), st.1 ≤ 5 → ∃ k', runI (fs.flatMap fuItems) st = some (k', { st.2 with fns := st.2.fns ++ fs })
  | [], st, h => ⟨st.1, by simp [runI]⟩
  | f :: fs, st, h => by
    rw [List.flatMap_cons, runI_append]
    have e : runI (fuItems f) st = some (5, { st.2 with fns := st.2.fns ++ [f] }) := by
      unfold fuItems
      rw [runI]
      have e1 : stepI st (.fn f.env f.param f.res) = some (5, { st.2 with fns := st.2.fns ++ [⟨f.env, f.param, f.res, []⟩] }) := by
        unfold stepI
        rw [if_pos ⟨fun h2 => (by cases h2), h⟩]
        rfl
      rw [e1]
      simp only
      rw [runI_code f.code _ st.2.fns ⟨f.env, f.param, f.res, []⟩ rfl]
      simp
    rw [e]
    simp only
    obtain ⟨k', hk⟩ := runI_fns fs (5, { st.2 with fns := st.2.fns ++ [f] }) (Nat.le_refl _)
    exact ⟨k', by rw [hk]; simp⟩
theorem items_ok {c : Cod} (h : c.ok) : ∀ it ∈ items c, it.ok := by
  intro it hit
  obtain ⟨h1, h2, h3⟩ := h
  simp only [items, List.mem_append, List.mem_map, List.mem_flatMap] at hit
  rcases hit with ⟨n, hn, rfl⟩ | ⟨s, _, rfl⟩ | ⟨s, _, rfl⟩ | ⟨w, hw, rfl⟩ | ⟨f, hf, hi⟩
  · exact h3 n hn
  · trivial
  · trivial
  · exact h2 w hw
  · rcases List.mem_cons.1 hi with rfl | hi
    · trivial
    · obtain ⟨i, hi2, rfl⟩ := List.mem_map.1 hi
      exact h1 f hf i hi2
theorem read_show {c : Cod} (h : c.ok) : ∃ k, readV (showV c) = (some (k, c), 0) := by
  have e1 := runI_map Item.num (fun c l => { c with nums := c.nums ++ l }) 1 (fun _ => rfl) (fun _ => rfl) (fun _ _ => rfl) (fun _ _ _ => by simp) (fun _ => by simp) c.nums (0, .nil) (by decide)
  obtain ⟨k1, u1, _, r1⟩ := e1
  obtain ⟨k2, u2, _, r2⟩ := runI_map Item.text (fun c l => { c with texts := c.texts ++ l }) 2 (fun _ => rfl) (fun _ => rfl) (fun _ _ => rfl) (fun _ _ _ => by simp) (fun _ => by simp) c.texts (k1, { Cod.nil with nums := Cod.nil.nums ++ c.nums }) (by simp only; omega)
  obtain ⟨k3, u3, _, r3⟩ := runI_map Item.type (fun c l => { c with types := c.types ++ l }) 3 (fun _ => rfl) (fun _ => rfl) (fun _ _ => rfl) (fun _ _ _ => by simp) (fun _ => by simp) c.types (k2, { Cod.nil with nums := Cod.nil.nums ++ c.nums, texts := Cod.nil.texts ++ c.texts }) (by simp only; omega)
  obtain ⟨k4, u4, _, r4⟩ := runI_map (fun w : Wt => Item.cast w.f w.t w.co) (fun c l => { c with casts := c.casts ++ l }) 4 (fun _ => rfl) (fun _ => rfl) (fun _ _ => rfl) (fun _ _ _ => by simp) (fun _ => by simp) c.casts (k3, { Cod.nil with nums := Cod.nil.nums ++ c.nums, texts := Cod.nil.texts ++ c.texts, types := Cod.nil.types ++ c.types }) (by simp only; omega)
  obtain ⟨k5, r5⟩ := runI_fns c.fns (k4, { Cod.nil with nums := Cod.nil.nums ++ c.nums, texts := Cod.nil.texts ++ c.texts, types := Cod.nil.types ++ c.types, casts := Cod.nil.casts ++ c.casts }) (by simp only; omega)
  refine ⟨k5, runV_show _ _ _ _ (items_ok h) ?_⟩
  unfold items
  rw [runI_append, r1]
  simp only
  rw [runI_append, r2]
  simp only
  rw [runI_append, r3]
  simp only
  rw [runI_append, r4]
  simp only
  rw [r5]
  simp [Cod.nil]

/-! ### What is read is told so -/
theorem items_num {c : Cod} (n : Int) (h2 : c.texts = []) (h3 : c.types = []) (h4 : c.casts = []) (h5 : c.fns = []) : items { c with nums := c.nums ++ [n] } = items c ++ [.num n] := by simp [items, h2, h3, h4, h5]
theorem fl_addIn {l : List Fu} (h : l ≠ []) (i : In) : (addIn l i).flatMap fuItems = l.flatMap fuItems ++ [.ins i.op i.a i.b] := by
  obtain ⟨r, f, rfl⟩ : ∃ r f, l = r ++ [f] := by
    rcases List.eq_nil_or_concat l with h2 | ⟨r, f, h2⟩
    · exact absurd h2 h
    · exact ⟨r, f, by simpa using h2⟩
  rw [addIn_last]
  simp [fuItems]
/-- What the stage says of what has been read. -/
def stageC (st : Nat × Cod) : Prop := (st.1 ≤ 1 → st.2.texts = []) ∧ (st.1 ≤ 2 → st.2.types = []) ∧ (st.1 ≤ 3 → st.2.casts = []) ∧ (st.1 ≤ 4 → st.2.fns = [])
theorem stepI_some {st st' : Nat × Cod} {it : Item} (hs : stageC st) (h : stepI st it = some st') : items st'.2 = items st.2 ++ [it] ∧ stageC st' ∧ (st.2.ok → it.ok → st'.2.ok) := by
  unfold stepI at h
  split at h
  · rename_i hc
    injection h with h
    subst h
    obtain ⟨h1, h2⟩ := hc
    obtain ⟨s1, s2, s3, s4⟩ := hs
    cases it with
    | num n =>
      have h2' : st.1 ≤ 1 := h2
      have e2 := s1 h2'
      have e3 := s2 (by omega)
      have e4 := s3 (by omega)
      have e5 := s4 (by omega)
      refine ⟨by simp [addI, items, e2, e3, e4, e5], ⟨fun _ => e2, fun _ => e3, fun _ => e4, fun _ => e5⟩, fun ho hi => ⟨ho.1, ho.2.1, fun m hm => ?_⟩⟩
      rcases List.mem_append.1 hm with hm | hm
      · exact ho.2.2 m hm
      · rw [List.mem_singleton.1 hm]; exact hi
    | text s =>
      have h2' : st.1 ≤ 2 := h2
      have e3 := s2 h2'
      have e4 := s3 (by omega)
      have e5 := s4 (by omega)
      exact ⟨by simp [addI, items, e3, e4, e5], ⟨fun h => by simp [stageI] at h, fun _ => e3, fun _ => e4, fun _ => e5⟩, fun ho hi => ho⟩
    | type s =>
      have h2' : st.1 ≤ 3 := h2
      have e4 := s3 h2'
      have e5 := s4 (by omega)
      exact ⟨by simp [addI, items, e4, e5], ⟨fun h => by simp [stageI] at h, fun h => by simp [stageI] at h, fun _ => e4, fun _ => e5⟩, fun ho hi => ho⟩
    | cast f t cs =>
      have h2' : st.1 ≤ 4 := h2
      have e5 := s4 h2'
      refine ⟨by simp [addI, items, e5], ⟨fun h => by simp [stageI] at h, fun h => by simp [stageI] at h, fun h => by simp [stageI] at h, fun _ => e5⟩, fun ho hi => ⟨ho.1, fun w hw => ?_, ho.2.2⟩⟩
      rcases List.mem_append.1 hw with hw | hw
      · exact ho.2.1 w hw
      · rw [List.mem_singleton.1 hw]; exact hi
    | fn e p r =>
      refine ⟨by simp [addI, items, fuItems], ⟨fun h => by simp [stageI] at h, fun h => by simp [stageI] at h, fun h => by simp [stageI] at h, fun h => by simp [stageI] at h⟩, fun ho hi => ⟨fun f hf => ?_, ho.2.1, ho.2.2⟩⟩
      rcases List.mem_append.1 hf with hf | hf
      · exact ho.1 f hf
      · rw [List.mem_singleton.1 hf]; simp
    | ins o a b =>
      have hne := h1 rfl
      refine ⟨?_, ⟨fun h => by simp [stageI] at h, fun h => by simp [stageI] at h, fun h => by simp [stageI] at h, fun h => by simp [stageI] at h⟩, fun ho hi => ⟨fun f hf => ?_, ho.2.1, ho.2.2⟩⟩
      · simp only [addI, items]
        rw [fl_addIn hne]
        simp
      · obtain ⟨r, g, hrg⟩ : ∃ r g, st.2.fns = r ++ [g] := by
          rcases List.eq_nil_or_concat st.2.fns with h2 | ⟨r, f, h2⟩
          · exact absurd h2 hne
          · exact ⟨r, f, by simpa using h2⟩
        simp only [addI] at hf
        rw [hrg, addIn_last] at hf
        have hall := ho.1
        rw [hrg] at hall
        rcases List.mem_append.1 hf with hf | hf
        · exact hall f (by simp [hf])
        · rw [List.mem_singleton.1 hf]
          intro i hi'
          simp only [List.mem_append, List.mem_singleton] at hi'
          rcases hi' with hi' | rfl
          · exact hall g (by simp) i hi'
          · exact hi
  · cases h
theorem runV_ok : ∀ (n : Nat) (t : Bs) (st st' : Nat × Cod) (m k : Nat), t.length ≤ n → stageC st → st.2.ok → runV t st m = (some st', k) → showV st'.2 = showV st.2 ++ t ∧ stageC st' ∧ st'.2.ok ∧ k = 0 := by
  intro n
  induction n with
  | zero =>
    intro t st st' m k hn hs ho h
    obtain rfl : t = [] := List.eq_nil_of_length_eq_zero (by omega)
    rw [runV_nil] at h
    injection h with h1 h2
    injection h1 with h1
    subst h1
    exact ⟨by simp, hs, ho, h2.symm⟩
  | succ n ih =>
    intro t st st' m k hn hs ho h
    by_cases ht : t = []
    · subst ht
      rw [runV_nil] at h
      injection h with h1 h2
      injection h1 with h1
      subst h1
      exact ⟨by simp, hs, ho, h2.symm⟩
    rcases hc : lineC t with _ | ⟨l, r⟩
    · rw [runV_none ht hc] at h
      injection h with h1 h2
      cases h1
    · rw [runV_some hc] at h
      split at h
      · injection h with h1 h2
        cases h1
      · rename_i s1 hs1
        unfold stepV at hs1
        split at hs1
        · rename_i it hit
          obtain ⟨e1, e2⟩ := lineV_some hit
          obtain ⟨k1, k2, k3⟩ := stepI_some hs hs1
          have hlen := lineC_len _ _ hc
          simp only at hlen
          obtain ⟨g1, g2, g3, g4⟩ := ih r s1 st' (m + 1) k (by omega) k2 (k3 ho e2) h
          refine ⟨?_, g2, g3, g4⟩
          obtain ⟨q1, _⟩ := lineC_eq _ _ hc
          simp only at q1
          rw [g1, ← q1, ← e1]
          unfold showV
          rw [k1]
          simp [showI]
        · cases hs1
theorem read_ok {t : Bs} {st : Nat × Cod} {k : Nat} (h : readV t = (some st, k)) : showV st.2 = t ∧ st.2.ok ∧ k = 0 ∧ (st.2.fns ≠ [] → st.1 = 5 ∨ 5 < st.1) := by
  obtain ⟨h1, h2, h3, h4⟩ := runV_ok _ t (0, .nil) st 1 k (Nat.le_refl _) ⟨fun _ => rfl, fun _ => rfl, fun _ => rfl, fun _ => rfl⟩ ⟨by simp [Cod.nil], by simp [Cod.nil], by simp [Cod.nil]⟩ h
  refine ⟨by simpa [showV, showI, items, Cod.nil] using h1, h3, h4, fun hf => ?_⟩
  by_cases h5 : st.1 ≤ 4
  · exact absurd (h2.2.2.2 h5) hf
  · omega
theorem runV_line : ∀ (n : Nat) (t : Bs) (st : Nat × Cod) (m k : Nat), t.length ≤ n → 1 ≤ m → runV t st m = (none, k) → 1 ≤ k := by
  intro n
  induction n with
  | zero =>
    intro t st m k hn hm h
    obtain rfl : t = [] := List.eq_nil_of_length_eq_zero (by omega)
    rw [runV_nil] at h
    injection h with h1 h2
    cases h1
  | succ n ih =>
    intro t st m k hn hm h
    by_cases ht : t = []
    · subst ht
      rw [runV_nil] at h
      injection h with h1 h2
      cases h1
    rcases hc : lineC t with _ | ⟨l, r⟩
    · rw [runV_none ht hc] at h
      injection h with h1 h2
      omega
    · rw [runV_some hc] at h
      split at h
      · injection h with h1 h2; omega
      · have hlen := lineC_len _ _ hc
        simp only at hlen
        exact ih r _ (m + 1) k (by omega) (by omega) h
theorem showI_ends : ∀ (l : List Item), l ≠ [] → ∃ b x, showI l = b ++ [x, 10] ∧ x.toNat ≠ 10
  | [], h => absurd rfl h
  | [it], _ => by
    have hne := item_line_ne it
    rcases List.eq_nil_or_concat (itemL it) with h | ⟨b, x, h⟩
    · exact absurd h hne
    · refine ⟨b, x, by simp [showI, h], item_no10 it x (by rw [h]; simp)⟩
  | it :: i2 :: r, _ => by
    obtain ⟨b, x, h1, h2⟩ := showI_ends (i2 :: r) (by simp)
    exact ⟨(itemL it ++ [10]) ++ b, x, by
      show (itemL it ++ [10]) ++ showI (i2 :: r) = _
      rw [h1]; simp, h2⟩
/-- Without its last byte, or with one more, it is not read. -/
theorem read_less {c : Cod} (hne : showV c ≠ []) : (readV (showV c).dropLast).1 = none := by
  rcases h : readV (showV c).dropLast with ⟨_ | st, k⟩
  · rfl
  · exfalso
    obtain ⟨h1, _⟩ := read_ok h
    have hi : items c ≠ [] := by intro e; apply hne; unfold showV; rw [e]; rfl
    obtain ⟨b, x, e1, e2⟩ := showI_ends (items c) hi
    have e3 : (showV c).dropLast = b ++ [x] := by unfold showV; rw [e1, show b ++ [x, 10] = (b ++ [x]) ++ [10] by simp, List.dropLast_concat]
    rw [e3] at h1
    by_cases hi2 : items st.2 = []
    · unfold showV at h1; rw [hi2] at h1; simp [showI] at h1
    · obtain ⟨b2, x2, e4, e5⟩ := showI_ends _ hi2
      unfold showV at h1
      rw [e4, show b2 ++ [x2, 10] = (b2 ++ [x2]) ++ [10] by simp] at h1
      have := (List.append_inj' h1 rfl).2
      injection this with this
      rw [← this] at e2
      exact e2 rfl
theorem read_more {c : Cod} : (readV (showV c ++ [10])).1 = none := by
  rcases h : readV (showV c ++ [10]) with ⟨_ | st, k⟩
  · rfl
  · exfalso
    obtain ⟨h1, _⟩ := read_ok h
    by_cases hi2 : items st.2 = []
    · unfold showV at h1; rw [hi2] at h1; simp [showI] at h1
    · obtain ⟨b2, x2, e4, e5⟩ := showI_ends _ hi2
      have e6 : showV st.2 = (b2 ++ [x2]) ++ [10] := by unfold showV; rw [e4]; simp
      rw [e6] at h1
      have h2 := (List.append_inj' h1 rfl).1
      by_cases hi : items c = []
      · unfold showV at h2; rw [hi] at h2; simp [showI] at h2
      · obtain ⟨b, x, e1, e2⟩ := showI_ends (items c) hi
        unfold showV at h2
        rw [e1, show b ++ [x, 10] = (b ++ [x]) ++ [10] by simp] at h2
        have := (List.append_inj' h2 rfl).2
        injection this with this
        rw [this] at e5
        exact e5 rfl
end Go.Proofs.YtobplngonkdbpaaGreatDoor.D

/- CdT -/
namespace Go.Proofs.YtobplngonkdbpaaGreatDoor.D
open Go Go.Lib
set_option linter.unusedVariables false
set_option linter.unusedSimpArgs false

/-- The first place of a byte. -/
def idxB (c : UInt8) : Bs → Option Nat
  | [] => none
  | x :: r => if x = c then some 0 else (idxB c r).map (· + 1)
/-- The first place of two bytes. -/
def idx2 (c d : UInt8) : Bs → Option Nat
  | [] => none
  | x :: r => if x = c ∧ r.head? = some d then some 0 else (idx2 c d r).map (· + 1)
/-- Where a line's first word ends. -/
def endW (s : Bs) : Option Nat := if s.head? = some 34 then (idx2 34 32 (s.drop 1)).map (· + 2) else idxB 32 s
theorem idxB_lt {c : UInt8} : ∀ (s : Bs) (n : Nat), idxB c s = some n → n < s.length ∧ s[n]? = some c
  | [], n, h => by simp [idxB] at h
  | x :: r, n, h => by
    rw [idxB] at h
    split at h
    · rename_i hx; injection h with h; subst h; exact ⟨by simp, by simp [hx]⟩
    · obtain ⟨m, hm, rfl⟩ := Option.map_eq_some_iff.1 h
      obtain ⟨h1, h2⟩ := idxB_lt r m hm
      exact ⟨by simp; omega, by simpa using h2⟩
theorem idx2_lt {c d : UInt8} : ∀ (s : Bs) (n : Nat), idx2 c d s = some n → n + 1 < s.length ∧ s[n]? = some c ∧ s[n + 1]? = some d
  | [], n, h => by simp [idx2] at h
  | x :: r, n, h => by
    rw [idx2] at h
    split at h
    · rename_i hx
      injection h with h; subst h
      cases r with
      | nil => simp at hx
      | cons y r => simp at hx; exact ⟨by simp, by simp [hx.1], by simp [hx.2]⟩
    · obtain ⟨m, hm, rfl⟩ := Option.map_eq_some_iff.1 h
      obtain ⟨h1, h2, h3⟩ := idx2_lt r m hm
      exact ⟨by simp; omega, by simpa using h2, by simpa using h3⟩
theorem endW_lt {s : Bs} {n : Nat} (h : endW s = some n) : n < s.length ∧ s[n]? = some 32 := by
  unfold endW at h
  split at h
  · obtain ⟨m, hm, rfl⟩ := Option.map_eq_some_iff.1 h
    obtain ⟨h1, h2, h3⟩ := idx2_lt _ m hm
    cases s with
    | nil => simp at h1
    | cons x s =>
      simp only [List.drop_succ_cons, List.drop_zero, List.length_cons] at h1 h3 ⊢
      exact ⟨by omega, by simpa using h3⟩
  · exact idxB_lt _ _ h
/-- The program's words. -/
def wordsP (s : Bs) : List Bs := match h : endW s with
  | none => [s]
  | some e => s.take e :: wordsP (s.drop (e + 1))
termination_by s.length
decreasing_by have := (endW_lt h).1; simp; omega
theorem wordsP_none {s : Bs} (h : endW s = none) : wordsP s = [s] := by
  rw [wordsP]; split
  · rfl
  · rename_i e h2; rw [h] at h2; cases h2
theorem wordsP_some {s : Bs} {e : Nat} (h : endW s = some e) : wordsP s = s.take e :: wordsP (s.drop (e + 1)) := by
  rw [wordsP]; split
  · rename_i h2; rw [h] at h2; cases h2
  · rename_i e' h2; rw [h] at h2; injection h2 with h2; rw [h2]
theorem wordsP_join : ∀ (n : Nat) (s : Bs), s.length ≤ n → joinC 32 (wordsP s) = s ∧ wordsP s ≠ [] := by
  intro n
  induction n with
  | zero =>
    intro s hs
    obtain rfl : s = [] := List.eq_nil_of_length_eq_zero (by omega)
    rw [wordsP_none (by rfl)]
    exact ⟨rfl, by simp⟩
  | succ n ih =>
    intro s hs
    rcases h : endW s with _ | e
    · rw [wordsP_none h]; exact ⟨rfl, by simp⟩
    · rw [wordsP_some h]
      obtain ⟨h1, h2⟩ := endW_lt h
      obtain ⟨k1, k2⟩ := ih (s.drop (e + 1)) (by simp; omega)
      refine ⟨?_, by simp⟩
      rcases hw : wordsP (s.drop (e + 1)) with _ | ⟨v, r⟩
      · exact absurd hw k2
      · rw [hw] at k1
        rw [joinC, k1]
        have h3 : s.drop e = 32 :: s.drop (e + 1) := by
          rw [List.drop_eq_getElem_cons h1]
          congr 1
          have := List.getElem?_eq_getElem h1
          rw [this] at h2
          injection h2
        rw [← h3, List.take_append_drop]
theorem idxB_word : ∀ (w r : Bs), (∀ x ∈ w, x.toNat ≠ 32 ∧ x.toNat ≠ 34) → idxB 32 (w ++ 32 :: r) = some w.length
  | [], r, _ => by rw [List.nil_append, idxB, if_pos rfl]; rfl
  | x :: w, r, h => by
    have hx := h x (by simp)
    rw [List.cons_append, idxB, if_neg (by rintro rfl; exact hx.1 rfl), idxB_word w r (fun y hy => h y (by simp [hy]))]
    rfl
theorem idxB_no : ∀ (w : Bs), (∀ x ∈ w, x.toNat ≠ 32 ∧ x.toNat ≠ 34) → idxB 32 w = none
  | [], _ => rfl
  | x :: w, h => by
    have hx := h x (by simp)
    rw [idxB, if_neg (by rintro rfl; exact hx.1 rfl), idxB_no w (fun y hy => h y (by simp [hy]))]
    rfl
theorem idx2_word : ∀ (b r : Bs), (∀ x ∈ b, x.toNat ≠ 34) → idx2 34 32 (b ++ 34 :: 32 :: r) = some b.length
  | [], r, _ => by rw [List.nil_append, idx2, if_pos ⟨rfl, rfl⟩]; rfl
  | x :: b, r, h => by
    rw [List.cons_append, idx2, if_neg (by rintro ⟨rfl, _⟩; exact h 34 (by simp) rfl), idx2_word b r (fun y hy => h y (by simp [hy]))]
    rfl
theorem idx2_no : ∀ (b : Bs), (∀ x ∈ b, x.toNat ≠ 34) → idx2 34 32 (b ++ [34]) = none
  | [], _ => rfl
  | x :: b, h => by
    rw [List.cons_append, idx2, if_neg (by rintro ⟨rfl, _⟩; exact h 34 (by simp) rfl), idx2_no b (fun y hy => h y (by simp [hy]))]
    rfl
theorem endW_mid {w r : Bs} (h : goodW w) : endW (w ++ 32 :: r) = some w.length := by
  rcases h with h | ⟨b, rfl, hb⟩
  · unfold endW
    have : (w ++ 32 :: r).head? ≠ some 34 := by
      cases w with
      | nil => simp
      | cons x w => simp only [List.cons_append, List.head?_cons]; intro e; injection e with e; have := (h x (by simp)).2; rw [e] at this; exact this rfl
    rw [if_neg this, idxB_word w r h]
  · unfold endW
    rw [if_pos (by rfl)]
    simp only [List.cons_append, List.drop_succ_cons, List.drop_zero, List.append_assoc, List.nil_append]
    rw [idx2_word b r hb]
    simp
theorem endW_end {w : Bs} (h : goodW w) : endW w = none := by
  rcases h with h | ⟨b, rfl, hb⟩
  · unfold endW
    have : w.head? ≠ some 34 := by
      cases w with
      | nil => simp
      | cons x w => simp only [List.head?_cons]; intro e; injection e with e; have := (h x (by simp)).2; rw [e] at this; exact this rfl
    rw [if_neg this, idxB_no w h]
  · unfold endW
    rw [if_pos (by rfl)]
    simp only [List.drop_succ_cons, List.drop_zero]
    rw [idx2_no b hb]
    rfl
theorem wordsP_good : ∀ (ws : List Bs), ws ≠ [] → (∀ w ∈ ws, goodW w) → wordsP (joinC 32 ws) = ws
  | [], h, _ => absurd rfl h
  | [w], _, h => by rw [joinC]; exact wordsP_none (endW_end (h w (by simp)))
  | w :: v :: r, _, h => by
    rw [joinC, wordsP_some (endW_mid (h w (by simp)))]
    rw [List.take_left', List.drop_append]
    · rw [List.drop_of_length_le (by omega), List.nil_append, show w.length + 1 - w.length = 1 by omega, List.drop_succ_cons, List.drop_zero, wordsP_good (v :: r) (by simp) (fun u hu => h u (by simp [hu]))]
    · rfl
/-- The program's way leads to the same item. -/
theorem rd_wordsP (l : Bs) : rdItem (wordsP l) = lineV l := by
  rcases h : lineV l with _ | it
  · rcases h2 : rdItem (wordsP l) with _ | it
    · rfl
    · obtain ⟨h3, h4⟩ := rdItem_some h2
      have h5 := (wordsP_join _ l (Nat.le_refl _)).1
      rw [← h3] at h5
      have h6 := lineV_item h4
      unfold itemL at h6
      rw [h5, h] at h6
      cases h6
  · obtain ⟨h1, h2⟩ := lineV_some h
    rw [← h1]
    unfold itemL
    rw [wordsP_good _ (item_ne it) (item_good it)]
    exact rdItem_item h2
end Go.Proofs.YtobplngonkdbpaaGreatDoor.D

/- CdU -/
namespace Go.Proofs.YtobplngonkdbpaaGreatDoor.D
open Go Go.Lib
set_option linter.unusedVariables false
set_option linter.unusedSimpArgs false

/-! ### The answer's numbers -/
/-- The value of digits; none: another byte stands there. -/
def valD : Bs → Nat → Option Nat
  | [], v => some v
  | c :: r, v => if 48 ≤ c.toNat ∧ c.toNat ≤ 57 then valD r (10 * v + (c.toNat - 48)) else none
theorem valD_append (ys : Bs) : ∀ (xs : Bs) (v : Nat), valD (xs ++ ys) v = (valD xs v).bind (valD ys)
  | [], v => rfl
  | c :: r, v => by
    rw [List.cons_append, valD, valD]
    split
    · exact valD_append ys r _
    · rfl
theorem valD_dec (u : Nat) : valD (decDigits u) 0 = some u := by
  induction u using Nat.strongRecOn with
  | _ u ih =>
    by_cases h : u < 10
    · rw [decDigits, dif_pos h, valD, dig_toNat h, if_pos (by omega), valD]
      congr 1; omega
    · rw [decDigits, dif_neg h, valD_append, ih (u / 10) (by omega)]
      show valD [UInt8.ofNat (48 + u % 10)] (u / 10) = _
      rw [valD, dig_toNat (Nat.mod_lt _ (by decide)), if_pos (by omega), valD]
      congr 1; omega
theorem valD_ge : ∀ (xs : Bs) (v u : Nat), valD xs v = some u → v ≤ u
  | [], v, u, h => by simp only [valD] at h; injection h with h; omega
  | c :: r, v, u, h => by
    rw [valD] at h
    split at h
    · have := valD_ge r _ u h; omega
    · cases h
theorem valD_lt : ∀ (xs : Bs) (v u : Nat), valD xs v = some u → u < (v + 1) * 10 ^ xs.length
  | [], v, u, h => by simp only [valD] at h; injection h with h; simp; omega
  | c :: r, v, u, h => by
    rw [valD] at h
    split at h
    · rename_i hc
      have := valD_lt r _ u h
      rw [List.length_cons, Nat.pow_succ]
      have h1 : (10 * v + (c.toNat - 48) + 1) * 10 ^ r.length ≤ (10 * (v + 1)) * 10 ^ r.length := Nat.mul_le_mul_right _ (by omega)
      have h2 : (10 * (v + 1)) * 10 ^ r.length = (v + 1) * (10 ^ r.length * 10) := by rw [Nat.mul_comm 10, Nat.mul_assoc, Nat.mul_comm 10]
      omega
    · cases h
/-- Digits without a needless nought are told anew just so. -/
theorem dec_val : ∀ (n : Nat) (xs : Bs) (u : Nat), xs.length ≤ n → xs ≠ [] → (xs.head? = some 48 → xs.length = 1) → valD xs 0 = some u → decDigits u = xs := by
  intro n
  induction n with
  | zero => intro xs u h1 h2; exact absurd (List.eq_nil_of_length_eq_zero (by omega)) h2
  | succ n ih =>
    intro xs u h1 h2 h3 h4
    rcases List.eq_nil_or_concat xs with h | ⟨ys, d, h⟩
    · exact absurd h h2
    have hx : xs = ys ++ [d] := by simpa using h
    subst hx
    rw [valD_append] at h4
    rcases hv : valD ys 0 with _ | v
    · rw [hv] at h4; cases h4
    · rw [hv] at h4
      have h5 : valD [d] v = some u := h4
      rw [valD] at h5
      split at h5
      · rename_i hd
        simp only [valD] at h5
        injection h5 with h5
        have hdd : UInt8.ofNat (48 + (d.toNat - 48)) = d := by rw [show 48 + (d.toNat - 48) = d.toNat by omega]; simp
        by_cases hy : ys = []
        · subst hy
          simp only [valD] at hv
          injection hv with hv
          rw [decDigits, dif_pos (by omega), List.nil_append]
          congr 1
          rw [← hdd]; congr 1; omega
        · have hl : 0 < ys.length := List.length_pos_iff.2 hy
          have hh : ys.head? ≠ some 48 := by
            intro e
            have : (ys ++ [d]).head? = some 48 := by cases ys with
              | nil => exact absurd rfl hy
              | cons a r => simpa using e
            have := h3 this
            rw [List.length_append] at this
            simp only [List.length_cons, List.length_nil] at this
            omega
          have e := ih ys v (by rw [List.length_append] at h1; simp only [List.length_cons, List.length_nil] at h1; omega) hy (fun e => absurd e hh) hv
          have hpos : 1 ≤ v := by
            cases ys with
            | nil => exact absurd rfl hy
            | cons a r =>
              rw [valD] at hv
              split at hv
              · rename_i ha
                have := valD_ge r _ v hv
                have hne : a.toNat ≠ 48 := by intro e2; apply hh; rw [List.head?_cons]; congr 1; exact UInt8.toNat_inj.1 e2
                omega
              · cases hv
          rw [decDigits, dif_neg (by omega), show u / 10 = v by omega, e, show u % 10 = d.toNat - 48 by omega, hdd]
      · cases h5
/-- The answer's digits. -/
def digB (minus : Bool) (w : Bs) : Option Int :=
  if w.length = 0 ∨ 19 < w.length ∨ (w.head? = some 48 ∧ (minus = true ∨ 1 < w.length)) then none
  else match valD w 0 with
    | none => none
    | some v => if minus = true then (if v ≤ 9223372036854775808 then some (-(v : Int)) else none) else (if v < 9223372036854775808 then some (v : Int) else none)
def digA (w : Bs) : Option Int := match w with
  | [] => digB false []
  | c :: r => if c = 45 then digB true r else digB false (c :: r)
theorem nd_le {u : Nat} (h : u < 10000000000000000000) : nDigits u ≤ 19 := by
  by_cases h0 : nDigits u ≤ 19
  · exact h0
  exfalso
  have h1 : 20 ≤ nDigits u := by omega
  -- the number of digits tells how large a number is
  have key : ∀ (k u : Nat), k + 1 ≤ nDigits u → 10 ^ k ≤ u ∨ k = 0 := by
    intro k
    induction k with
    | zero => intro u _; exact .inr rfl
    | succ k ih =>
      intro u hu
      left
      by_cases hs : u < 10
      · rw [nDigits_small hs] at hu; omega
      · rw [nDigits_big hs] at hu
        rcases ih (u / 10) (by omega) with h | h
        · rw [Nat.pow_succ]; omega
        · subst h; simp; omega
  rcases key 19 u h1 with h2 | h2
  · have : (10 : Nat) ^ 19 = 10000000000000000000 := rfl
    omega
  · cases h2
theorem dec_head0 {u : Nat} (h : (decDigits u).head? = some 48) : u = 0 := by
  by_cases h0 : (decDigits u).length = 1
  · obtain ⟨c, hc⟩ := List.length_eq_one_iff.1 h0
    rw [hc] at h
    injection h with h
    have hv := valD_dec u
    rw [hc, h, valD, if_pos (by decide), valD] at hv
    injection hv with hv
    simpa using hv.symm
  · have key : ∀ (k u : Nat), u ≤ k → (decDigits u).head? = some 48 → u = 0 := by
      intro k
      induction k with
      | zero => intro u hu _; omega
      | succ k ih =>
        intro u hu hh
        by_cases hs : u < 10
        · rw [decDigits, dif_pos hs] at hh
          injection hh with hh
          have := dig_toNat hs
          rw [hh] at this
          have e : (48 : UInt8).toNat = 48 := rfl
          omega
        · rw [decDigits, dif_neg hs] at hh
          obtain ⟨c, r, e, _⟩ := dec_head (u / 10)
          rw [e] at hh
          have := ih (u / 10) (by omega) (by rw [e]; exact hh)
          omega
    exact key u u (Nat.le_refl _) h
theorem digA_itoa {n : Int} (h : inR n) : digA (itoa n) = some n := by
  obtain ⟨h0, h1⟩ := h
  unfold itoa
  split
  · rename_i hn
    rw [digA, if_pos rfl, digB]
    have hl := decDigits_length n.natAbs
    have hl2 := nd_le (u := n.natAbs) (by omega)
    have hp := nDigits_pos n.natAbs
    rw [if_neg (by
      rintro (h | h | ⟨h, _⟩)
      · omega
      · omega
      · have := dec_head0 h; omega), valD_dec]
    simp only
    rw [if_pos trivial, if_pos (by omega)]
    congr 1; omega
  · rename_i hn
    obtain ⟨c, r, e, hc1, hc2⟩ := dec_head n.toNat
    have hl := decDigits_length n.toNat
    have hl2 := nd_le (u := n.toNat) (by omega)
    have hp := nDigits_pos n.toNat
    have hv := valD_dec n.toNat
    have hh := dec_head0 (u := n.toNat)
    have hz : n.toNat = 0 → (decDigits n.toNat).length = 1 := fun h => by rw [h, decDigits, dif_pos (by decide)]; rfl
    rw [e] at hl hv hh hz ⊢
    rw [digA, if_neg (by rintro rfl; exact absurd hc1 (by decide)), digB]
    rw [if_neg (by
      rintro (h | h | ⟨h, h2 | h2⟩)
      · omega
      · omega
      · cases h2
      · have := hz (hh h); omega), hv]
    simp only
    rw [if_neg (by simp), if_pos (by omega)]
    congr 1; omega
theorem digB_some {minus : Bool} {w : Bs} {n : Int} (h : digB minus w = some n) : itoa n = (if minus = true then 45 :: w else w) ∧ inR n := by
  unfold digB at h
  split at h
  · cases h
  rename_i hb
  simp only [not_or] at hb
  obtain ⟨b1, b2, b3⟩ := hb
  split at h
  · cases h
  rename_i v hv
  have hd := dec_val _ w v (Nat.le_refl _) (by intro e; rw [e] at b1; exact b1 rfl) (fun e => by
    have : ¬ (minus = true ∨ 1 < w.length) := fun h => b3 ⟨e, h⟩
    rw [not_or] at this
    omega) hv
  split at h
  · rename_i hm
    split at h
    · rename_i hle
      injection h with h
      subst h
      have hv1 : 1 ≤ v := by
        by_cases hz : v = 0
        · exfalso
          subst hz
          have : decDigits 0 = [48] := by rw [decDigits, dif_pos (by decide)]; rfl
          rw [this] at hd
          exact b3 ⟨by rw [← hd]; rfl, .inl hm⟩
        · omega
      rw [if_pos hm]
      refine ⟨?_, by omega, by omega⟩
      unfold itoa
      rw [if_pos (by omega), show (-(v : Int)).natAbs = v by omega, hd]
    · cases h
  · rename_i hm
    split at h
    · rename_i hlt
      injection h with h
      subst h
      rw [if_neg hm]
      refine ⟨?_, by omega, by omega⟩
      unfold itoa
      rw [if_neg (by omega), show ((v : Int)).toNat = v by omega, hd]
    · cases h
theorem digA_eq (w : Bs) : digA w = numV w := by
  rcases h : numV w with _ | n
  · rcases h2 : digA w with _ | n
    · rfl
    · exfalso
      have k : itoa n = w ∧ inR n := by
        unfold digA at h2
        split at h2
        · have := digB_some h2; simpa using this
        · split at h2
          · rename_i hc
            have := digB_some h2
            rw [if_pos rfl] at this
            rw [hc]; exact this
          · have := digB_some h2; simpa using this
      have := numV_itoa k.2
      rw [k.1, h] at this
      cases this
  · obtain ⟨h1, h2⟩ := numV_some h
    rw [← h1]; exact digA_itoa h2

/-! ### Texts -/
def hexV (b : UInt8) : Option Nat := if 48 ≤ b.toNat ∧ b.toNat ≤ 57 then some (b.toNat - 48) else if 97 ≤ b.toNat ∧ b.toNat ≤ 102 then some (b.toNat - 97 + 10) else none
theorem hexV_D {n : Nat} (h : n < 16) : hexV (hexD n) = some n := by
  have key : ∀ n : Fin 16, hexV (hexD n.val) = some n.val := by decide
  exact key ⟨n, h⟩
/-- The answer's bytes between quotes. -/
def decA : Bs → Option Bs
  | [] => some []
  | c :: r => if c ≠ 92 then (decA r).map (c :: ·) else match r with
    | x :: h :: k :: r2 => match hexV h, hexV k with
      | some a, some b => if x = 120 then (decA r2).map (UInt8.ofNat (16 * a + b) :: ·) else none
      | _, _ => none
    | _ => none
theorem decA_inner : ∀ s : Bs, decA (inner s) = some s
  | [] => rfl
  | x :: s => by
    have ih := decA_inner s
    have hx := x.toNat_lt
    show decA (escB x ++ inner s) = _
    unfold escB
    split
    · rename_i hp
      have h92 := (plainB_iff.1 hp).2.2.2
      unfold decA
      rw [List.singleton_append]
      simp only
      rw [if_pos (by rintro rfl; exact h92 rfl), ih]
      rfl
    · simp only [List.cons_append, List.nil_append]
      rw [decA, if_neg (by simp)]
      simp only
      rw [hexV_D (by omega), hexV_D (by omega)]
      simp only
      rw [if_pos trivial, ih]
      simp only [Option.map_some]
      congr 2
      rw [show 16 * (x.toNat / 16) + x.toNat % 16 = x.toNat by omega]; simp
def bareA (w : Bs) : Option Bs := if w.length < 2 ∨ w.head? ≠ some 34 ∨ w.getLast? ≠ some 34 then none
  else match decA ((w.drop 1).dropLast) with
    | some s => if quoteL s = w then some s else none
    | none => none
theorem quote_mid (b : Bs) : ((quoteL b).drop 1).dropLast = inner b := by
  simp only [quoteL, List.drop_succ_cons, List.drop_zero, List.dropLast_concat]
theorem bareA_eq (w : Bs) : bareA w = unq w := by
  rcases h : unq w with _ | b
  · unfold bareA
    split
    · rfl
    · split
      · split
        · rename_i s _ hq
          rw [← hq, unq_quote] at h; cases h
        · rfl
      · rfl
  · have hw := unq_some h
    unfold bareA
    rw [if_neg (by
      rintro (h | h | h)
      · rw [← hw] at h; simp [quoteL] at h; omega
      · rw [← hw] at h; exact h rfl
      · rw [← hw] at h; apply h; simp [quoteL, List.getLast?_cons]), ← hw, quote_mid, decA_inner]
    simp
end Go.Proofs.YtobplngonkdbpaaGreatDoor.D
