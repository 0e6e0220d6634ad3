/- Parts of this claim: CdS, CdT, CdU, CdV, CdW. -/
import Derived.Test.YtobplngonkdbpaaGreatDoorP02
import Derived.Test.YtobplngonkdbpaaGreatDoorP01
set_option linter.unusedVariables false
set_option linter.unusedSimpArgs false
/- CdS -/
namespace Go.Proofs.YtobplngonkdbpaaGreatDoor.D
open Go Go.Lib
set_option linter.unusedVariables false
set_option linter.unusedSimpArgs false
structure In where
 op : Int
 a : Int
 b : Int
structure Fu where
 env : List Bs
 param : Bs
 res : Bs
 code : List In
structure Wt where
 f : Bs
 t : Bs
 co : List Nd
structure Cod where
 fns : List Fu
 casts : List Wt
 nums : List Int
 texts : List Bs
 types : List Bs
def Cod.nil : Cod := ⟨[], [], [], [], []⟩
def In.ok (i : In) : Prop := -128 <= i.op /\ i.op <= 127 /\ inR i.a /\ inR i.b
def Cod.ok (c : Cod) : Prop := (∀ f ∈ c.fns, ∀ i ∈ f.code, i.ok) /\ (∀ w ∈ c.casts, ∀ n ∈ w.co, n.ok) /\ ∀ n ∈ c.nums, inR n
def fuItems (f : Fu) : List Item := .fn f.env f.param f.res :: f.code.map fun i => .ins i.op i.a i.b
/-- The items of code, in order. -/
def items (c : Cod) : List Item := c.nums.map .num ++ (c.texts.map .text ++ (c.types.map .type ++ (c.casts.map (fun w => .cast w.f w.t w.co) ++ c.fns.flatMap fuItems)))
def showI (l : List Item) : Bs := l.flatMap fun it => itemL it ++ [10]
def showV (c : Cod) : Bs := showI (items c)
def stageI : Item -> Nat
 | .num _ => 1
 | .text _ => 2
 | .type _ => 3
 | .cast _ _ _ => 4
 | .fn _ _ _ => 5
 | .ins _ _ _ => 5
/-- An instruction more, in the last function. -/
def addIn (l : List Fu) (i : In) : List Fu := match l.reverse with
 | [] => []
 | f :: r => (r.reverse ++ [{ f with code := f.code ++ [i] }])
def addI (c : Cod) : Item -> Cod
 | .num n => { c with nums := c.nums ++ [n] }
 | .text s => { c with texts := c.texts ++ [s] }
 | .type s => { c with types := c.types ++ [s] }
 | .cast f t cs => { c with casts := c.casts ++ [⟨f, t, cs⟩] }
 | .fn e p r => { c with fns := c.fns ++ [⟨e, p, r, []⟩] }
 | .ins o a b => { c with fns := addIn c.fns ⟨o, a, b⟩ }
def isIns : Item -> Bool
 | .ins _ _ _ => true
 | _ => false
open Classical in
/-- One item more, if it may stand there. -/
noncomputable def stepI (st : Nat × Cod) (it : Item) : Option (Nat × Cod) := if (isIns it = true -> st.2.fns ≠ []) /\ st.1 <= stageI it then some (stageI it, addI st.2 it) else none
noncomputable def stepV (st : Nat × Cod) (l : Bs) : Option (Nat × Cod) := match lineV l with
 | some it => stepI st it
 | none => none
/-- The first line, what stands behind its end. -/
def lineC : Bs -> Option (Bs × Bs)
 | [] => none
 | c :: r => if c.toNat = 10 then some ([], r) else match lineC r with
  | some p => some (c :: p.1, p.2)
  | none => none
theorem lineC_len : ∀ (l : Bs) (p : Bs × Bs), lineC l = some p -> p.2.length < l.length
 | [], p, h => by simp [lineC] at h
 | c :: r, p, h => by
  rw [lineC] at h
  split at h
  · injection h with h; rw [<- h]; simp
  ·
   split at h
   ·
    rename_i q hq
    injection h with h
    rw [<- h]
    have := lineC_len r q hq
    simp; omega
   · cases h
theorem lineC_eq : ∀ (l : Bs) (p : Bs × Bs), lineC l = some p -> p.1 ++ 10 :: p.2 = l /\ ∀ x ∈ p.1, x.toNat ≠ 10
 | [], p, h => by simp [lineC] at h
 | c :: r, p, h => by
  rw [lineC] at h
  split at h
  ·
   rename_i hc
   injection h with h; rw [<- h]
   exact ⟨by rw [List.nil_append, show c = 10 from UInt8.toNat_inj.1 hc], by simp⟩
  ·
   rename_i hc
   split at h
   ·
    rename_i q hq
    injection h with h
    rw [<- h]
    obtain ⟨h1, h2⟩ := lineC_eq r q hq
    refine ⟨by rw [List.cons_append, h1], fun x hx => ?_⟩
    rcases List.mem_cons.1 hx with rfl | hx
    · exact hc
    · exact h2 x hx
   · cases h
theorem lineC_of : ∀ (l r : Bs), (∀ x ∈ l, x.toNat ≠ 10) -> lineC (l ++ 10 :: r) = some (l, r)
 | [], r, _ => by rw [List.nil_append, lineC, if_pos (by decide)]
 | c :: l, r, h => by rw [List.cons_append, lineC, if_neg (h c (by simp)), lineC_of l r (fun x hx => h x (by simp [hx]))]
/-- Lines read: the state, or the line that cannot stand there. -/
noncomputable def runV (t : Bs) (st : Nat × Cod) (n : Nat) : (Option (Nat × Cod)) × Nat :=
 if t = [] then (some st, 0) else
 match h : lineC t with
 | none => (none, n)
 | some (l, r) => match stepV st l with
  | none => (none, n)
  | some st' => runV r st' (n + 1)
termination_by t.length
decreasing_by have := lineC_len _ _ h; simpa using this
noncomputable def readV (t : Bs) : (Option (Nat × Cod)) × Nat := runV t (0, .nil) 1
theorem runV_nil (st : Nat × Cod) (n : Nat) : runV [] st n = (some st, 0) := by rw [runV, if_pos rfl]
theorem runV_none {t : Bs} (ht : t ≠ []) (h : lineC t = none) (st : Nat × Cod) (n : Nat) : runV t st n = (none, n) := by
 rw [runV, if_neg ht]
 split
 · rfl
 · rename_i l r h2; rw [h] at h2; cases h2
theorem runV_some {t l r : Bs} (h : lineC t = some (l, r)) (st : Nat × Cod) (n : Nat) : runV t st n = match stepV st l with
  | none => (none, n)
  | some st' => runV r st' (n + 1) := by
 have ht : t ≠ [] := by rintro rfl; simp [lineC] at h
 rw [runV, if_neg ht]
 split
 · rename_i h2; rw [h] at h2; cases h2
 ·
  rename_i l' r' h2
  rw [h] at h2
  injection h2 with h2
  injection h2 with h3 h4
  subst h3 h4
  rfl
/-! ### Lines of items -/
theorem quote_no10 {s : Bs} : ∀ x ∈ quoteL s, x.toNat ≠ 10 := by
 intro x hx
 rcases List.mem_cons.1 hx with rfl | hx
 · decide
 ·
  rcases List.mem_append.1 hx with hx | hx
  · have := inner_chars x hx; omega
  · rw [List.mem_singleton.1 hx]; decide
theorem itoa_no10 {n : Int} : ∀ x ∈ itoa n, x.toNat ≠ 10 := fun x hx => by have := itoa_chars x hx; omega
theorem word_no10 (it : Item) : ∀ w ∈ itemWs it, ∀ x ∈ w, x.toNat ≠ 10 := by
 intro w hw
 cases it with
 | num n =>
  simp only [itemWs, List.mem_cons, List.not_mem_nil, or_false] at hw
  rcases hw with rfl | rfl
  · decide
  · exact itoa_no10
 | text s =>
  simp only [itemWs, List.mem_cons, List.not_mem_nil, or_false] at hw
  rcases hw with rfl | rfl
  · decide
  · exact quote_no10
 | type s =>
  simp only [itemWs, List.mem_cons, List.not_mem_nil, or_false] at hw
  rcases hw with rfl | rfl
  · decide
  · exact quote_no10
 | cast f t cs =>
  simp only [itemWs, List.mem_cons] at hw
  rcases hw with rfl | rfl | rfl | hw
  · decide
  · exact quote_no10
  · exact quote_no10
  ·
   obtain ⟨c, _, rfl⟩ := List.mem_map.1 hw
   intro x hx; have := ndW_chars x hx; omega
 | fn env p q =>
  simp only [itemWs, List.mem_cons, List.mem_append, List.not_mem_nil, or_false] at hw
  rcases hw with rfl | hw | rfl | rfl | rfl
  · decide
  ·
   obtain ⟨s, _, rfl⟩ := List.mem_map.1 hw
   exact quote_no10
  · decide
  · exact quote_no10
  · exact quote_no10
 | ins op a b =>
  simp only [itemWs, List.mem_cons, List.not_mem_nil, or_false] at hw
  rcases hw with rfl | rfl | rfl | rfl
  · simp
  · intro x hx; have := opW_chars x hx; omega
  · exact itoa_no10
  · exact itoa_no10
theorem item_no10 (it : Item) : ∀ x ∈ itemL it, x.toNat ≠ 10 := by
 intro x hx
 rcases joinC_mem 32 _ x hx with rfl | ⟨w, hw, hx⟩
 · decide
 · exact word_no10 it w hw x hx
noncomputable def runI : List Item -> Nat × Cod -> Option (Nat × Cod)
 | [], st => some st
 | it :: r, st => match stepI st it with
  | some st' => runI r st'
  | none => none
theorem runV_show : ∀ (l : List Item) (st st' : Nat × Cod) (n : Nat), (∀ it ∈ l, it.ok) -> runI l st = some st' -> runV (showI l) st n = (some st', 0)
 | [], st, st', n, _, h => by simp only [runI] at h; injection h with h; rw [h]; exact runV_nil _ _
 | it :: r, st, st', n, hok, h => by
  rw [runI] at h
  split at h
  ·
   rename_i s1 hs
   have e : lineC (showI (it :: r)) = some (itemL it, showI r) := by
    show lineC ((itemL it ++ [10]) ++ showI r) = _
    rw [List.append_assoc]
    exact lineC_of _ _ (item_no10 it)
   rw [runV_some e]
   have e2 : stepV st (itemL it) = some s1 := by unfold stepV; rw [lineV_item (hok it (by simp))]; exact hs
   rw [e2]
   exact runV_show r s1 st' (n + 1) (fun i hi => hok i (by simp [hi])) h
  · cases h
theorem runI_append : ∀ (a b : List Item) (st : Nat × Cod), runI (a ++ b) st = match runI a st with
  | some s => runI b s
  | none => none
 | [], b, st => rfl
 | it :: a, b, st => by
  rw [List.cons_append, runI, runI]
  split
  · exact runI_append a b _
  · rfl
/-! ### What is told is read -/
theorem runI_map {α : Type} (f : α -> Item) (g : Cod -> List α -> Cod) (k : Nat) (hs : ∀ a, stageI (f a) = k) (hi : ∀ a, isIns (f a) = false) (hg : ∀ c a, addI c (f a) = g c [a]) (hgg : ∀ c a l, g (g c [a]) l = g c (a :: l)) (hg0 : ∀ c, g c [] = c) :
  ∀ (l : List α) (st : Nat × Cod), st.1 <= k -> ∃ k', k' <= k /\ st.1 <= k' /\ runI (l.map f) st = some (k', g st.2 l)
 | [], st, h => ⟨st.1, h, Nat.le_refl _, by rw [List.map_nil, runI, hg0]⟩
 | a :: l, st, h => by
  rw [List.map_cons, runI]
  have e : stepI st (f a) = some (k, g st.2 [a]) := by
   unfold stepI
   rw [if_pos ⟨fun h2 => (by rw [hi] at h2; cases h2), (by rw [hs]; exact h)⟩, hs, hg]
  rw [e]
  obtain ⟨k', h1, h2, h3⟩ := runI_map f g k hs hi hg hgg hg0 l (k, g st.2 [a]) (Nat.le_refl _)
  exact ⟨k', h1, Nat.le_trans h h2, by simp only; rw [h3]; simp only [hgg]⟩
theorem addIn_last (l : List Fu) (f : Fu) (i : In) : addIn (l ++ [f]) i = l ++ [{ f with code := f.code ++ [i] }] := by
 unfold addIn
 rw [List.reverse_append, List.reverse_cons, List.reverse_nil, List.nil_append, List.singleton_append]
 simp
theorem runI_code : ∀ (is : List In) (c : Cod) (l : List Fu) (f : Fu), c.fns = l ++ [f] -> runI (is.map fun i => Item.ins i.op i.a i.b) (5, c) = some (5, { c with fns := l ++ [{ f with code := f.code ++ is }] })
 | [], c, l, f, h => by simp [runI, <- h]
 | i :: is, c, l, f, h => by
  rw [List.map_cons, runI]
  have e : stepI (5, c) (.ins i.op i.a i.b) = some (5, { c with fns := l ++ [{ f with code := f.code ++ [i] }] }) := by
   unfold stepI
   rw [if_pos ⟨fun _ => by simp [h], Nat.le_refl _⟩]
   simp only [stageI, addI]
   rw [h, addIn_last]
  rw [e]
  simp only
  rw [runI_code is { c with fns := l ++ [{ f with code := f.code ++ [i] }] } l { f with code := f.code ++ [i] } rfl]
  simp
theorem runI_fns : ∀ (fs : List Fu) (st : Nat × Cod), st.1 <= 5 -> ∃ k', runI (fs.flatMap fuItems) st = some (k', { st.2 with fns := st.2.fns ++ fs })
 | [], st, h => ⟨st.1, by simp [runI]⟩
 | f :: fs, st, h => by
  rw [List.flatMap_cons, runI_append]
  have e : runI (fuItems f) st = some (5, { st.2 with fns := st.2.fns ++ [f] }) := by
   unfold fuItems
   rw [runI]
   have e1 : stepI st (.fn f.env f.param f.res) = some (5, { st.2 with fns := st.2.fns ++ [⟨f.env, f.param, f.res, []⟩] }) := by
    unfold stepI
    rw [if_pos ⟨fun h2 => (by cases h2), h⟩]
    rfl
   rw [e1]
   simp only
   rw [runI_code f.code _ st.2.fns ⟨f.env, f.param, f.res, []⟩ rfl]
   simp
  rw [e]
  simp only
  obtain ⟨k', hk⟩ := runI_fns fs (5, { st.2 with fns := st.2.fns ++ [f] }) (Nat.le_refl _)
  exact ⟨k', by rw [hk]; simp⟩
theorem items_ok {c : Cod} (h : c.ok) : ∀ it ∈ items c, it.ok := by
 intro it hit
 obtain ⟨h1, h2, h3⟩ := h
 simp only [items, List.mem_append, List.mem_map, List.mem_flatMap] at hit
 rcases hit with ⟨n, hn, rfl⟩ | ⟨s, _, rfl⟩ | ⟨s, _, rfl⟩ | ⟨w, hw, rfl⟩ | ⟨f, hf, hi⟩
 · exact h3 n hn
 · trivial
 · trivial
 · exact h2 w hw
 ·
  rcases List.mem_cons.1 hi with rfl | hi
  · trivial
  ·
   obtain ⟨i, hi2, rfl⟩ := List.mem_map.1 hi
   exact h1 f hf i hi2
theorem read_show {c : Cod} (h : c.ok) : ∃ k, readV (showV c) = (some (k, c), 0) := by
 have e1 := runI_map Item.num (fun c l => { c with nums := c.nums ++ l }) 1 (fun _ => rfl) (fun _ => rfl) (fun _ _ => rfl) (fun _ _ _ => by simp) (fun _ => by simp) c.nums (0, .nil) (by decide)
 obtain ⟨k1, u1, _, r1⟩ := e1
 obtain ⟨k2, u2, _, r2⟩ := runI_map Item.text (fun c l => { c with texts := c.texts ++ l }) 2 (fun _ => rfl) (fun _ => rfl) (fun _ _ => rfl) (fun _ _ _ => by simp) (fun _ => by simp) c.texts (k1, { Cod.nil with nums := Cod.nil.nums ++ c.nums }) (by simp only; omega)
 obtain ⟨k3, u3, _, r3⟩ := runI_map Item.type (fun c l => { c with types := c.types ++ l }) 3 (fun _ => rfl) (fun _ => rfl) (fun _ _ => rfl) (fun _ _ _ => by simp) (fun _ => by simp) c.types (k2, { Cod.nil with nums := Cod.nil.nums ++ c.nums, texts := Cod.nil.texts ++ c.texts }) (by simp only; omega)
 obtain ⟨k4, u4, _, r4⟩ := runI_map (fun w : Wt => Item.cast w.f w.t w.co) (fun c l => { c with casts := c.casts ++ l }) 4 (fun _ => rfl) (fun _ => rfl) (fun _ _ => rfl) (fun _ _ _ => by simp) (fun _ => by simp) c.casts (k3, { Cod.nil with nums := Cod.nil.nums ++ c.nums, texts := Cod.nil.texts ++ c.texts, types := Cod.nil.types ++ c.types }) (by simp only; omega)
 obtain ⟨k5, r5⟩ := runI_fns c.fns (k4, { Cod.nil with nums := Cod.nil.nums ++ c.nums, texts := Cod.nil.texts ++ c.texts, types := Cod.nil.types ++ c.types, casts := Cod.nil.casts ++ c.casts }) (by simp only; omega)
 refine ⟨k5, runV_show _ _ _ _ (items_ok h) ?_⟩
 unfold items
 rw [runI_append, r1]
 simp only
 rw [runI_append, r2]
 simp only
 rw [runI_append, r3]
 simp only
 rw [runI_append, r4]
 simp only
 rw [r5]
 simp [Cod.nil]
/-! ### What is read is told so -/
end Go.Proofs.YtobplngonkdbpaaGreatDoor.D
/- CdT -/
namespace Go.Proofs.YtobplngonkdbpaaGreatDoor.D
open Go Go.Lib
set_option linter.unusedVariables false
set_option linter.unusedSimpArgs false
/-- The first place of a byte. -/
def idxB (c : UInt8) : Bs -> Option Nat
 | [] => none
 | x :: r => if x = c then some 0 else (idxB c r).map (· + 1)
/-- The first place of two bytes. -/
def idx2 (c d : UInt8) : Bs -> Option Nat
 | [] => none
 | x :: r => if x = c /\ r.head? = some d then some 0 else (idx2 c d r).map (· + 1)
/-- Where a line's first word ends. -/
def endW (s : Bs) : Option Nat := if s.head? = some 34 then (idx2 34 32 (s.drop 1)).map (· + 2) else idxB 32 s
theorem idxB_lt {c : UInt8} : ∀ (s : Bs) (n : Nat), idxB c s = some n -> n < s.length /\ s[n]? = some c
 | [], n, h => by simp [idxB] at h
 | x :: r, n, h => by
  rw [idxB] at h
  split at h
  · rename_i hx; injection h with h; subst h; exact ⟨by simp, by simp [hx]⟩
  ·
   obtain ⟨m, hm, rfl⟩ := Option.map_eq_some_iff.1 h
   obtain ⟨h1, h2⟩ := idxB_lt r m hm
   exact ⟨by simp; omega, by simpa using h2⟩
theorem idx2_lt {c d : UInt8} : ∀ (s : Bs) (n : Nat), idx2 c d s = some n -> n + 1 < s.length /\ s[n]? = some c /\ s[n + 1]? = some d
 | [], n, h => by simp [idx2] at h
 | x :: r, n, h => by
  rw [idx2] at h
  split at h
  ·
   rename_i hx
   injection h with h; subst h
   cases r with
   | nil => simp at hx
   | cons y r => simp at hx; exact ⟨by simp, by simp [hx.1], by simp [hx.2]⟩
  ·
   obtain ⟨m, hm, rfl⟩ := Option.map_eq_some_iff.1 h
   obtain ⟨h1, h2, h3⟩ := idx2_lt r m hm
   exact ⟨by simp; omega, by simpa using h2, by simpa using h3⟩
theorem endW_lt {s : Bs} {n : Nat} (h : endW s = some n) : n < s.length /\ s[n]? = some 32 := by
 unfold endW at h
 split at h
 ·
  obtain ⟨m, hm, rfl⟩ := Option.map_eq_some_iff.1 h
  obtain ⟨h1, h2, h3⟩ := idx2_lt _ m hm
  cases s with
  | nil => simp at h1
  | cons x s =>
   simp only [List.drop_succ_cons, List.drop_zero, List.length_cons] at h1 h3 ⊢
   exact ⟨by omega, by simpa using h3⟩
 · exact idxB_lt _ _ h
/-- The program's words. -/
def wordsP (s : Bs) : List Bs := match h : endW s with
 | none => [s]
 | some e => s.take e :: wordsP (s.drop (e + 1))
termination_by s.length
decreasing_by have := (endW_lt h).1; simp; omega
theorem wordsP_none {s : Bs} (h : endW s = none) : wordsP s = [s] := by
 rw [wordsP]; split
 · rfl
 · rename_i e h2; rw [h] at h2; cases h2
theorem wordsP_some {s : Bs} {e : Nat} (h : endW s = some e) : wordsP s = s.take e :: wordsP (s.drop (e + 1)) := by
 rw [wordsP]; split
 · rename_i h2; rw [h] at h2; cases h2
 · rename_i e' h2; rw [h] at h2; injection h2 with h2; rw [h2]
theorem wordsP_join : ∀ (n : Nat) (s : Bs), s.length <= n -> joinC 32 (wordsP s) = s /\ wordsP s ≠ [] := by
 intro n
 induction n with
 | zero =>
  intro s hs
  obtain rfl : s = [] := List.eq_nil_of_length_eq_zero (by omega)
  rw [wordsP_none (by rfl)]
  exact ⟨rfl, by simp⟩
 | succ n ih =>
  intro s hs
  rcases h : endW s with _ | e
  · rw [wordsP_none h]; exact ⟨rfl, by simp⟩
  ·
   rw [wordsP_some h]
   obtain ⟨h1, h2⟩ := endW_lt h
   obtain ⟨k1, k2⟩ := ih (s.drop (e + 1)) (by simp; omega)
   refine ⟨?_, by simp⟩
   rcases hw : wordsP (s.drop (e + 1)) with _ | ⟨v, r⟩
   · exact absurd hw k2
   ·
    rw [hw] at k1
    rw [joinC, k1]
    have h3 : s.drop e = 32 :: s.drop (e + 1) := by
     rw [List.drop_eq_getElem_cons h1]
     congr 1
     have := List.getElem?_eq_getElem h1
     rw [this] at h2
     injection h2
    rw [<- h3, List.take_append_drop]
theorem idxB_word : ∀ (w r : Bs), (∀ x ∈ w, x.toNat ≠ 32 /\ x.toNat ≠ 34) -> idxB 32 (w ++ 32 :: r) = some w.length
 | [], r, _ => by rw [List.nil_append, idxB, if_pos rfl]; rfl
 | x :: w, r, h => by
  have hx := h x (by simp)
  rw [List.cons_append, idxB, if_neg (by rintro rfl; exact hx.1 rfl), idxB_word w r (fun y hy => h y (by simp [hy]))]
  rfl
theorem idxB_no : ∀ (w : Bs), (∀ x ∈ w, x.toNat ≠ 32 /\ x.toNat ≠ 34) -> idxB 32 w = none
 | [], _ => rfl
 | x :: w, h => by
  have hx := h x (by simp)
  rw [idxB, if_neg (by rintro rfl; exact hx.1 rfl), idxB_no w (fun y hy => h y (by simp [hy]))]
  rfl
theorem idx2_word : ∀ (b r : Bs), (∀ x ∈ b, x.toNat ≠ 34) -> idx2 34 32 (b ++ 34 :: 32 :: r) = some b.length
 | [], r, _ => by rw [List.nil_append, idx2, if_pos ⟨rfl, rfl⟩]; rfl
 | x :: b, r, h => by
  rw [List.cons_append, idx2, if_neg (by rintro ⟨rfl, _⟩; exact h 34 (by simp) rfl), idx2_word b r (fun y hy => h y (by simp [hy]))]
  rfl
theorem idx2_no : ∀ (b : Bs), (∀ x ∈ b, x.toNat ≠ 34) -> idx2 34 32 (b ++ [34]) = none
 | [], _ => rfl
 | x :: b, h => by
  rw [List.cons_append, idx2, if_neg (by rintro ⟨rfl, _⟩; exact h 34 (by simp) rfl), idx2_no b (fun y hy => h y (by simp [hy]))]
  rfl
theorem endW_mid {w r : Bs} (h : goodW w) : endW (w ++ 32 :: r) = some w.length := by
 rcases h with h | ⟨b, rfl, hb⟩
 ·
  unfold endW
  have : (w ++ 32 :: r).head? ≠ some 34 := by
   cases w with
   | nil => simp
   | cons x w => simp only [List.cons_append, List.head?_cons]; intro e; injection e with e; have := (h x (by simp)).2; rw [e] at this; exact this rfl
  rw [if_neg this, idxB_word w r h]
 ·
  unfold endW
  rw [if_pos (by rfl)]
  simp only [List.cons_append, List.drop_succ_cons, List.drop_zero, List.append_assoc, List.nil_append]
  rw [idx2_word b r hb]
  simp
theorem endW_end {w : Bs} (h : goodW w) : endW w = none := by
 rcases h with h | ⟨b, rfl, hb⟩
 ·
  unfold endW
  have : w.head? ≠ some 34 := by
   cases w with
   | nil => simp
   | cons x w => simp only [List.head?_cons]; intro e; injection e with e; have := (h x (by simp)).2; rw [e] at this; exact this rfl
  rw [if_neg this, idxB_no w h]
 ·
  unfold endW
  rw [if_pos (by rfl)]
  simp only [List.drop_succ_cons, List.drop_zero]
  rw [idx2_no b hb]
  rfl
theorem wordsP_good : ∀ (ws : List Bs), ws ≠ [] -> (∀ w ∈ ws, goodW w) -> wordsP (joinC 32 ws) = ws
 | [], h, _ => absurd rfl h
 | [w], _, h => by rw [joinC]; exact wordsP_none (endW_end (h w (by simp)))
 | w :: v :: r, _, h => by
  rw [joinC, wordsP_some (endW_mid (h w (by simp)))]
  rw [List.take_left', List.drop_append]
  · rw [List.drop_of_length_le (by omega), List.nil_append, show w.length + 1 - w.length = 1 by omega, List.drop_succ_cons, List.drop_zero, wordsP_good (v :: r) (by simp) (fun u hu => h u (by simp [hu]))]
  · rfl
/-- The program's way leads to the same item. -/
theorem rd_wordsP (l : Bs) : rdItem (wordsP l) = lineV l := by
 rcases h : lineV l with _ | it
 ·
  rcases h2 : rdItem (wordsP l) with _ | it
  · rfl
  ·
   obtain ⟨h3, h4⟩ := rdItem_some h2
   have h5 := (wordsP_join _ l (Nat.le_refl _)).1
   rw [<- h3] at h5
   have h6 := lineV_item h4
   unfold itemL at h6
   rw [h5, h] at h6
   cases h6
 ·
  obtain ⟨h1, h2⟩ := lineV_some h
  rw [<- h1]
  unfold itemL
  rw [wordsP_good _ (item_ne it) (item_good it)]
  exact rdItem_item h2
end Go.Proofs.YtobplngonkdbpaaGreatDoor.D
/- CdU -/
namespace Go.Proofs.YtobplngonkdbpaaGreatDoor.D
open Go Go.Lib
set_option linter.unusedVariables false
set_option linter.unusedSimpArgs false
/-! ### The answer's numbers -/
/-! ### Texts -/
end Go.Proofs.YtobplngonkdbpaaGreatDoor.D
/- CdV -/
namespace Go.Proofs.YtobplngonkdbpaaGreatDoor.D
open Go Go.Lib
set_option linter.unusedVariables false
set_option linter.unusedSimpArgs false
theorem inner_nil {t : Bs} (h : inner t = []) : t = [] := by
 cases t with
 | nil => rfl
 | cons x t =>
  have := congrArg List.length h
  simp only [inner, List.flatMap_cons, List.length_append, List.length_nil] at this
  have := escB_len x; omega
theorem inner_cons (x : UInt8) (t : Bs) : inner (x :: t) = escB x ++ inner t := rfl
/-- What holds as the program reads the text that a word tells: read so far, still to read. -/
def invT (w : Bs) (g0 : Bool) (b l : Bs) (good : Bool) : Prop := ∀ b0, w = quoteL b0 -> good = g0 /\ ∃ t, b0 = b ++ t /\ l = inner t
theorem invT_init {w : Bs} (g0 : Bool) (hl : 2 <= w.length) : invT w g0 [] ((w.drop 1).take (w.length - 2)) g0 := by
 rintro b0 rfl
 refine ⟨rfl, b0, rfl, ?_⟩
 have h1 : (quoteL b0).length = (inner b0).length + 2 := by simp [quoteL]
 rw [h1, Nat.add_sub_cancel]
 simp only [quoteL, List.drop_succ_cons, List.drop_zero]
 exact List.take_left' rfl
theorem invT_plain {w b l : Bs} {g0 good : Bool} {x : UInt8} (h : invT w g0 b (x :: l) good) (hx : x ≠ 92) : invT w g0 (b ++ [x]) l good := by
 intro b0 hb
 obtain ⟨hg, t, ht, hl⟩ := h b0 hb
 cases t with
 | nil => cases hl
 | cons y t =>
  rw [inner_cons] at hl
  unfold escB at hl
  split at hl
  ·
   rw [List.singleton_append] at hl
   injection hl with h1 h2
   subst h1
   exact ⟨hg, t, by rw [ht]; simp, h2⟩
  ·
   rw [List.cons_append] at hl
   injection hl with h1 h2
   exact absurd h1 hx
/-- Behind a stroke: two digits of sixteen, of a byte. -/
theorem invT_esc {w b l : Bs} {g0 good : Bool} (h : invT w g0 b (92 :: l) good) (b0 : Bs) (hb : w = quoteL b0) :
  ∃ y : UInt8, 3 <= l.length /\ (l.drop 1).take 2 = [hexD (y.toNat / 16), hexD (y.toNat % 16)] /\ good = g0 /\ ∃ t, b0 = (b ++ [y]) ++ t /\ l.drop 3 = inner t := by
 obtain ⟨hg, t, ht, hl⟩ := h b0 hb
 cases t with
 | nil => cases hl
 | cons y t =>
  rw [inner_cons] at hl
  unfold escB at hl
  split at hl
  ·
   rename_i hp
   rw [List.singleton_append] at hl
   injection hl with h1 h2
   subst h1
   exact absurd rfl (plainB_iff.1 hp).2.2.2
  ·
   simp only [List.cons_append, List.nil_append, List.cons.injEq, true_and] at hl
   subst hl
   exact ⟨y, by simp, rfl, hg, t, by rw [ht]; simp, rfl⟩
theorem invT_end {w b : Bs} {g0 good : Bool} (h : invT w g0 b [] good) : (good && (quoteL b == w)) = (g0 && (unq w).isSome) /\ (∀ s, unq w = some s -> s = b) := by
 by_cases hq : quoteL b = w
 ·
  obtain ⟨hg, _⟩ := h b hq.symm
  refine ⟨by rw [hg, <- hq, unq_quote]; simp, fun s hs => ?_⟩
  rw [<- hq, unq_quote] at hs
  injection hs with hs; exact hs.symm
 ·
  have hn : unq w = none := by
   rcases hu : unq w with _ | b0
   · rfl
   ·
    exfalso
    have hb := unq_some hu
    obtain ⟨hg, t, ht, hl⟩ := h b0 hb.symm
    have := inner_nil hl.symm
    subst this
    rw [List.append_nil] at ht
    subst ht
    exact hq hb
  rw [hn]
  refine ⟨?_, fun s hs => by cases hs⟩
  rw [show (quoteL b == w) = false from by simpa using hq]
  simp
theorem unq_short {w : Bs} (h : w.length < 2) : unq w = none := unq_none fun b hb => by rw [<- hb] at h; simp [quoteL] at h; omega
end Go.Proofs.YtobplngonkdbpaaGreatDoor.D
/- CdW -/
namespace Go.Proofs.YtobplngonkdbpaaGreatDoor.D
open Go.RowKit
open Go.Proofs.YtobplngonkdbpaaGreatDoor.B
set_option linter.unusedVariables false
set_option linter.unusedSimpArgs false
/-! ### Rows that are owned, apart -/
/-- A row: its elements' type, their cells, the slice, how many, all cells. -/
structure Rw where
 e : TypeId
 sz : Nat
 v : Value
 n : Nat
 xs : List Value
/-- Rows of blocks from base on, no two in the same block. -/
structure Own (w : World) (base : Nat) (l : List Rw) : Prop where
 own : ∀ r ∈ l, w.ownsRow base r.e r.sz r.v r.n r.xs
 ap : l.Pairwise fun a b => Ap a.v b.v
section
variable {w w' : World} {base N : Nat} {A B l : List Rw} {r r' : Rw}
theorem Own.lt (h : Own w base l) (hr : r ∈ l) : ∀ b, r.v.ownBlock = some b -> base <= b /\ b < w.heap.size := (h.own r hr).lt
theorem Own.grow (h : Own w base l) (hb : Below w.heap.size w w') : Own w' base l := ⟨fun r hr => own_below (h.own r hr) hb, h.ap⟩
theorem Own.mid (h : Own w base (A ++ r :: B)) : (∀ x ∈ A, Ap x.v r.v) /\ (∀ x ∈ B, Ap x.v r.v) := by
 obtain ⟨_, h2, h3⟩ := List.pairwise_append.1 h.ap
 exact ⟨fun x hx => h3 x hx r (by simp), fun x hx => ((List.pairwise_cons.1 h2).1 x hx).symm⟩
/-- One row is written on. -/
theorem Own.touch (h : Own w base (A ++ r :: B)) (ht : Tch w w' r.v.ownBlock r'.v.ownBlock) (hr : w'.ownsRow base r'.e r'.sz r'.v r'.n r'.xs) : Own w' base (A ++ r' :: B) := by
 obtain ⟨ha, hb⟩ := h.mid
 obtain ⟨p1, p2, p3⟩ := List.pairwise_append.1 h.ap
 have kept : ∀ x, x ∈ A \/ x ∈ B -> w'.ownsRow base x.e x.sz x.v x.n x.xs := by
  intro x hx
  refine ht.own (h.own x (by rcases hx with hx | hx <;> simp [hx])) fun b hb1 h2 => ?_
  rcases hx with hx | hx
  · exact ha x hx b hb1 h2
  · exact hb x hx b hb1 h2
 have far : ∀ x, x ∈ A \/ x ∈ B -> Ap x.v r'.v := by
  intro x hx
  have hm : x ∈ A ++ r :: B := by rcases hx with hx | hx <;> simp [hx]
  rcases hx with hx | hx
  · exact Ap.touch (ha x hx) (fun b hb => (h.lt hm b hb).2) ht
  · exact Ap.touch (hb x hx) (fun b hb => (h.lt hm b hb).2) ht
 refine ⟨fun x hx => ?_, List.pairwise_append.2 ⟨p1, List.pairwise_cons.2 ⟨fun x hx => (far x (.inr hx)).symm, (List.pairwise_cons.1 p2).2⟩, ?_⟩⟩
 ·
  rcases List.mem_append.1 hx with hx | hx
  · exact kept x (.inl hx)
  ·
   rcases List.mem_cons.1 hx with rfl | hx
   · exact hr
   · exact kept x (.inr hx)
 ·
  intro x hx y hy
  rcases List.mem_cons.1 hy with rfl | hy
  · exact far x (.inl hx)
  · exact p3 x hx y (by simp [hy])
/-- A row more. -/
theorem Own.add (h : Own w base (A ++ B)) (hr : w.ownsRow base r.e r.sz r.v r.n r.xs) (hf : ∀ x, x ∈ A \/ x ∈ B -> Ap x.v r.v) : Own w base (A ++ r :: B) := by
 obtain ⟨p1, p2, p3⟩ := List.pairwise_append.1 h.ap
 refine ⟨fun x hx => ?_, List.pairwise_append.2 ⟨p1, List.pairwise_cons.2 ⟨fun x hx => (hf x (.inr hx)).symm, p2⟩, ?_⟩⟩
 ·
  rcases List.mem_append.1 hx with hx | hx
  · exact h.own x (by simp [hx])
  ·
   rcases List.mem_cons.1 hx with rfl | hx
   · exact hr
   · exact h.own x (by simp [hx])
 ·
  intro x hx y hy
  rcases List.mem_cons.1 hy with rfl | hy
  · exact hf x (.inl hx)
  · exact p3 x hx y hy
theorem own_base {e : TypeId} {sz n base' : Nat} {v : Value} {xs : List Value} (h : w.ownsRow base' e sz v n xs) (hb : base <= base') : w.ownsRow base e sz v n xs := by
 refine ⟨h.1, ?_⟩
 rcases h.2 with h2 | ⟨g, cap, cur, h1, h2, h3⟩
 · exact .inl h2
 · exact .inr ⟨g, cap, cur, h1, by omega, h3⟩
theorem Ap.fresh {u v : Value} {N : Nat} (h1 : ∀ b, u.ownBlock = some b -> b < N) (h2 : ∀ b, v.ownBlock = some b -> N <= b) : Ap u v := fun b hb hv => by have := h1 b hb; have := h2 b hv; omega
end
/-! ### Code in memory -/
def strV (b : Bs) : Value := .string ⟨b.toArray⟩
def inC (i : In) : List Value := [.int .i8 i.op, .int .i64 i.a, .int .i64 i.b]
def ndC (n : Nd) : List Value := [.int .i8 n.op, .int .i64 n.proj, .bool n.inj, .int .u8 n.head, .int .i64 n.lab, .int .u8 n.from_, .int .u8 n.to_]
/-- A function, a cast that lie somewhere. -/
structure FuL where
 ev : Value
 f : Fu
 cv : Value
structure WtL where
 w : Wt
 cv : Value
def FuL.cells (g : FuL) : List Value := [g.ev, strV g.f.param, strV g.f.res, g.cv]
def WtL.cells (g : WtL) : List Value := [strV g.w.f, strV g.w.t, g.cv]
structure CoL where
 fns : List FuL
 casts : List WtL
 nums : List Int
 texts : List Bs
 types : List Bs
 fv : Value
 cv : Value
 nv : Value
 tv : Value
 yv : Value
def CoL.code (L : CoL) : Cod := ⟨L.fns.map (·.f), L.casts.map (·.w), L.nums, L.texts, L.types⟩
def CoL.vals (L : CoL) : List Value := [L.fv, L.cv, L.nv, L.tv, L.yv]
def envC (l : List Bs) : List Value := l.map strV
def codC (l : List In) : List Value := l.flatMap inC
def cosC (l : List Nd) : List Value := l.flatMap ndC
def numC (l : List Int) : List Value := l.map fun n => .int .i64 n
/-- A slice that may be read, wherever it begins in its block. -/
def Rs (w : World) (sz : Nat) (u : Value) (n : Nat) (xs : List Value) : Prop := ∃ A c, u = .slice A n c /\ n <= c /\ c <= maxLen /\ Sl w w.heap.size sz A n xs
theorem Rs.sl {w : World} {sz n : Nat} {u : Value} {xs : List Value} (h : Rs w sz u n xs) : ∃ A c, u = .slice A n c /\ n <= c /\ c <= maxLen /\ Sl w w.heap.size sz A n xs := h
theorem Rs.grow {w w' : World} {sz n : Nat} {u : Value} {xs : List Value} (h : Rs w sz u n xs) (hb : Below w.heap.size w w') : Rs w' sz u n xs := by
 obtain ⟨A, c, e, h1, h2, h3⟩ := h
 exact ⟨A, c, e, h1, h2, (h3.below hb).more hb.size⟩
theorem rd_rs {w : World} {sz n : Nat} {u : Value} {xs : List Value} (h : Rd w sz u n xs) : Rs w sz u n xs := h.sl
/-- Code that may be read. -/
structure CR (w : World) (L : CoL) : Prop where
 f : Rs w 4 L.fv L.fns.length (L.fns.flatMap FuL.cells)
 c : Rs w 3 L.cv L.casts.length (L.casts.flatMap WtL.cells)
 n : Rs w 1 L.nv L.nums.length (numC L.nums)
 t : Rs w 1 L.tv L.texts.length (envC L.texts)
 y : Rs w 1 L.yv L.types.length (envC L.types)
 fe : ∀ g ∈ L.fns, Rs w 1 g.ev g.f.env.length (envC g.f.env)
 fc : ∀ g ∈ L.fns, Rs w 3 g.cv g.f.code.length (codC g.f.code)
 co : ∀ g ∈ L.casts, Rs w 7 g.cv g.w.co.length (cosC g.w.co)
theorem CR.grow {w w' : World} {L : CoL} (h : CR w L) (hb : Below w.heap.size w w') : CR w' L :=
 ⟨h.f.grow hb, h.c.grow hb, h.n.grow hb, h.t.grow hb, h.y.grow hb, fun g hg => (h.fe g hg).grow hb, fun g hg => (h.fc g hg).grow hb, fun g hg => (h.co g hg).grow hb⟩
/-- Rows of code that is owned. -/
def FuL.rws (g : FuL) : List Rw := [⟨9, 1, g.ev, g.f.env.length, envC g.f.env⟩, ⟨92, 3, g.cv, g.f.code.length, codC g.f.code⟩]
def WtL.rw (g : WtL) : Rw := ⟨86, 7, g.cv, g.w.co.length, cosC g.w.co⟩
def CoL.rws (L : CoL) : List Rw :=
 ⟨90, 4, L.fv, L.fns.length, L.fns.flatMap FuL.cells⟩ :: ⟨84, 3, L.cv, L.casts.length, L.casts.flatMap WtL.cells⟩ :: ⟨2, 1, L.nv, L.nums.length, numC L.nums⟩ ::
 ⟨9, 1, L.tv, L.texts.length, envC L.texts⟩ :: ⟨9, 1, L.yv, L.types.length, envC L.types⟩ :: (L.fns.flatMap FuL.rws ++ L.casts.map WtL.rw)
theorem CR.of_own {w : World} {base : Nat} {L : CoL} (h : ∀ r ∈ L.rws, w.ownsRow base r.e r.sz r.v r.n r.xs) : CR w L := by
 refine ⟨rd_rs (Rd.of_own (h ⟨_, _, _, _, _⟩ (List.mem_cons_self ..))), ?_, ?_, ?_, ?_, fun g hg => ?_, fun g hg => ?_, fun g hg => ?_⟩
 · exact rd_rs <| Rd.of_own (h ⟨84, 3, L.cv, L.casts.length, L.casts.flatMap WtL.cells⟩ (by simp [CoL.rws]))
 · exact rd_rs <| Rd.of_own (h ⟨2, 1, L.nv, L.nums.length, numC L.nums⟩ (by simp [CoL.rws]))
 · exact rd_rs <| Rd.of_own (h ⟨9, 1, L.tv, L.texts.length, envC L.texts⟩ (by simp [CoL.rws]))
 · exact rd_rs <| Rd.of_own (h ⟨9, 1, L.yv, L.types.length, envC L.types⟩ (by simp [CoL.rws]))
 ·
  refine rd_rs <| Rd.of_own (h ⟨9, 1, g.ev, g.f.env.length, envC g.f.env⟩ ?_)
  simp only [CoL.rws, List.mem_cons, List.mem_append, List.mem_flatMap]
  exact .inr (.inr (.inr (.inr (.inr (.inl ⟨g, hg, by simp [FuL.rws]⟩)))))
 ·
  refine rd_rs <| Rd.of_own (h ⟨92, 3, g.cv, g.f.code.length, codC g.f.code⟩ ?_)
  simp only [CoL.rws, List.mem_cons, List.mem_append, List.mem_flatMap]
  exact .inr (.inr (.inr (.inr (.inr (.inl ⟨g, hg, by simp [FuL.rws]⟩)))))
 ·
  refine rd_rs <| Rd.of_own (h g.rw ?_)
  simp only [CoL.rws, List.mem_cons, List.mem_append, List.mem_map]
  exact .inr (.inr (.inr (.inr (.inr (.inr ⟨g, hg, rfl⟩)))))
end Go.Proofs.YtobplngonkdbpaaGreatDoor.D
