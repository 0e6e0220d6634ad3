/- What is read out of a type's words is the type; what is read is a type. No program in sight. -/
import Derived.Test.YthonnpjlkcjoeaaGreatDoorRdP
namespace Go.Proofs.YthonnpjlkcjoeaaGreatDoor.T
set_option linter.unusedSimpArgs false
set_option linter.unusedVariables false

/-- A type's words; a function's in parentheses where b asks for it. -/
def parW (b : Bool) (l : List UInt8) : List UInt8 := if b then 40 :: (l ++ [41]) else l
def wordsT : Ty → List UInt8
  | .leaf h => if h = 105 then wI else if h = 98 then wB else if h = 116 then wT else [63]
  | .un h a => if h = 108 then 91 :: (wordsT a ++ [93]) else wX ++ 32 :: parW (a.head == 62) (wordsT a)
  | .bin h a b => if h = 62 then parW (a.head == 62) (wordsT a) ++ ([32, 45, 62, 32] ++ wordsT b) else 40 :: (wordsT a ++ ([44, 32] ++ (wordsT b ++ [41])))
def wrapT (a : Ty) : List UInt8 := parW (a.head == 62) (wordsT a)

/-- How many are open at once while it is read. -/
def depT : Ty → Nat
  | .leaf _ => 0
  | .un h a => if h = 108 then depT a + 1 else (if a.head = 62 then depT a + 1 else depT a) + 1
  | .bin h a b => if h = 62 then max (if a.head = 62 then depT a + 1 else depT a) (depT b + 1) else max (depT a) (depT b) + 1
def depW (a : Ty) : Nat := if a.head = 62 then depT a + 1 else depT a

theorem ok62_leaf {h : UInt8} (hk : (Ty.leaf h).ok) : h ≠ 62 := by intro e; rw [e] at hk; exact absurd (show arB 62 = 0 from hk) (by decide)
theorem ok62_un {h : UInt8} {a : Ty} (hk : (Ty.un h a).ok) : h ≠ 62 := by intro e; rw [e] at hk; exact absurd hk.1 (by decide)
theorem dep_two (t : Ty) : t.ok → depT t + 1 ≤ t.code.length ∧ (t.head = 62 → depT t + 2 ≤ t.code.length) := by
  induction t with
  | leaf h => intro hk; have := ok62_leaf hk; simp [depT, Ty.code, Ty.head, this]
  | un h a ih =>
    intro hk
    have h62 := ok62_un hk
    obtain ⟨i1, i2⟩ := ih hk.2
    refine ⟨?_, fun e => absurd e h62⟩
    simp only [depT, Ty.code, List.length_cons]
    by_cases e : a.head = 62
    · have := i2 e
      rw [if_pos e]; split <;> omega
    · rw [if_neg e]; split <;> omega
  | bin h a b iha ihb =>
    intro hk
    obtain ⟨i1, i2⟩ := iha hk.2.1
    obtain ⟨i3, _⟩ := ihb hk.2.2
    have ha := a.code_pos
    have hb := b.code_pos
    have e1 : (if a.head = 62 then depT a + 1 else depT a) + 1 ≤ a.code.length := by
      by_cases e : a.head = 62
      · have := i2 e; rw [if_pos e]; omega
      · rw [if_neg e]; omega
    simp only [depT, Ty.code, List.length_cons, List.length_append]
    refine ⟨?_, fun e => ?_⟩
    · split <;> omega
    · have e' : h = 62 := e
      rw [if_pos e']; omega
theorem dep_le {t : Ty} (hk : t.ok) : depT t + 1 ≤ t.code.length ∧ depW t + 1 ≤ t.code.length := by
  obtain ⟨i1, i2⟩ := dep_two t hk
  refine ⟨i1, ?_⟩
  unfold depW
  by_cases e : t.head = 62
  · have := i2 e; rw [if_pos e]; omega
  · rw [if_neg e]; omega

/-! ### Tokens of a text, one by one -/
section
variable {s r : List UInt8} {p : Nat}
theorem toks_blank (h : s.drop p = 32 :: r) : toks s p = toks s (p + 1) := by
  have hp : p < s.length := by
    rcases Nat.lt_or_ge p s.length with h1 | h1
    · exact h1
    · rw [List.drop_eq_nil_of_le h1] at h; cases h
  have hd1 : s.drop (p + 1) = r := by rw [← List.drop_drop, h]; rfl
  have hl : lex (s.drop p) p = lex (s.drop (p + 1)) (p + 1) := by rw [h, hd1]; simp [lex, blankB]
  by_cases he : (lex (s.drop p) p).tx = []
  · rw [toks_end he, toks_end (by rw [← hl]; exact he), hl]
  · rw [toks_cons (Nat.le_of_lt hp) he, toks_cons hp (by rw [← hl]; exact he), hl]
theorem toks_step {x : List UInt8} (hx : x ≠ []) (hp : p < s.length) (h : lex (s.drop p) p = ⟨x, p, false⟩) : toks s p = ⟨x, p, false⟩ :: toks s (p + x.length) := by
  have := toks_cons (s := s) (p := p) (Nat.le_of_lt hp) (by rw [h]; exact hx)
  rw [h] at this
  exact this
theorem lt_of_drop {c : UInt8} (h : s.drop p = c :: r) : p < s.length := by
  rcases Nat.lt_or_ge p s.length with h1 | h1
  · exact h1
  · rw [List.drop_eq_nil_of_le h1] at h; cases h
theorem toks_punct {c : UInt8} (h : s.drop p = c :: r) (hc : punctB c = true) : toks s p = ⟨[c], p, false⟩ :: toks s (p + 1) := by
  refine toks_step (x := [c]) (by simp) (lt_of_drop h) ?_
  rw [h]
  have hb : blankB c = false := by
    cases hb : blankB c
    · rfl
    · simp only [blankB, punctB, Bool.or_eq_true, beq_iff_eq] at hb hc
      rcases hb with ((rfl | rfl) | rfl) | rfl <;> simp at hc
  simp [lex, hb, hc]
theorem toks_arrow (h : s.drop p = 45 :: 62 :: r) : toks s p = ⟨[45, 62], p, false⟩ :: toks s (p + 2) := by
  refine toks_step (x := [45, 62]) (by simp) (lt_of_drop h) ?_
  rw [h]; rfl
/-- A rest that goes on no word. -/
def stop (r : List UInt8) : Prop := ∀ c, r.head? = some c → insideB c = false
theorem stop_take (h : stop r) : r.takeWhile insideB = [] := by
  cases r with
  | nil => rfl
  | cons c r => rw [List.takeWhile_cons, h c rfl]; rfl
theorem take_all {x : List UInt8} (hx : ∀ c ∈ x, insideB c = true) (h : stop r) : (x ++ r).takeWhile insideB = x := by
  induction x with
  | nil => exact stop_take h
  | cons c x ih => rw [List.cons_append, List.takeWhile_cons, hx c (by simp), ih (fun d hd => hx d (by simp [hd]))]; rfl
theorem toks_word {c : UInt8} {x : List UInt8} (h : s.drop p = c :: (x ++ r)) (h1 : blankB c = false ∧ punctB c = false ∧ c ≠ 45 ∧ letterB c = true) (hx : ∀ d ∈ x, insideB d = true) (hr : stop r) :
    toks s p = ⟨c :: x, p, false⟩ :: toks s (p + (x.length + 1)) := by
  refine toks_step (x := c :: x) (by simp) (lt_of_drop h) ?_
  rw [h]
  obtain ⟨g1, g2, g3, g4⟩ := h1
  have g3' : (c == 45) = false := by simpa using g3
  simp only [lex, g1, g2, g3', g4, take_all hx hr, Bool.false_and, Bool.false_eq_true, if_false, if_true]
theorem drop_more {x y : List UInt8} (h : s.drop p = x ++ y) : s.drop (p + x.length) = y := by rw [← List.drop_drop, h, List.drop_left]
end

/-! ### The parser at the words of a type -/
theorem stop_cons {c : UInt8} {r : List UInt8} (h : insideB c = false) : stop (c :: r) := fun d hd => by simp at hd; rw [← hd]; exact h

theorem hd_cons (t : Tok) (ts : List Tok) : hd (t :: ts) = t := rfl
theorem hd_tx (x : List UInt8) (p : Nat) (b : Bool) (ts : List Tok) : (hd (⟨x, p, b⟩ :: ts)).tx = x := rfl

theorem armS_base {z : Bool} {one arm : List Tok → Rd} {ts ts' : List Tok} {x : List UInt8} {p : Nat} (h : ts = ⟨x, p, false⟩ :: ts') (hx : x = wI ∨ x = wB ∨ x = wT ∨ x = [63]) : armS z one arm ts = .yes (x.take 1) ts' := by
  subst h; unfold armS; rw [hd_tx, if_pos hx]; rfl
theorem armS_par {one arm : List Tok → Rd} {ts ts' : List Tok} {p : Nat} (h : ts = ⟨[40], p, false⟩ :: ts') : armS false one arm ts = match one ts' with
      | .no e p => .no e p
      | .yes t ts1 => pairT one t ts1 := by
  subst h; unfold armS; rw [hd_tx, if_neg (by decide), if_pos rfl]; rfl
theorem armS_list {one arm : List Tok → Rd} {ts ts' : List Tok} {p : Nat} (h : ts = ⟨[91], p, false⟩ :: ts') : armS false one arm ts = match one ts' with
      | .no e p => .no e p
      | .yes t ts1 => endT (108 :: t) [93] ts1 := by
  subst h; unfold armS; rw [hd_tx, if_neg (by decide), if_neg (by decide), if_pos rfl]; rfl
theorem armS_box {one arm : List Tok → Rd} {ts ts' : List Tok} {p : Nat} (h : ts = ⟨wX, p, false⟩ :: ts') : armS false one arm ts = match arm ts' with
      | .no e p => .no e p
      | .yes t ts1 => .yes (120 :: t) ts1 := by
  subst h; unfold armS; rw [hd_tx, if_neg (by decide), if_neg (by decide), if_neg (by decide), if_pos rfl]; rfl

/-- What may stand behind: no word goes on; for one: no arrow stands next. -/
def after (s : List UInt8) (p : Nat) : Prop := (hd (toks s p)).tx ≠ [45, 62]

theorem one_of_arm {d : Nat} {ts ts1 : List Tok} {t : List UInt8} (h : armP d ts = .yes t ts1) (ha : (hd ts1).tx ≠ [45, 62]) : oneP d ts = .yes t ts1 := by
  cases d with
  | zero => rw [oneP_zero]; unfold oneS; rw [h]; simp only; rw [if_neg ha]
  | succ d => rw [oneP_succ]; unfold oneS; rw [h]; simp only; rw [if_neg ha]

theorem leaf_cases {h : UInt8} (hk : (Ty.leaf h).ok) : h = 105 ∨ h = 98 ∨ h = 116 ∨ h = 63 := by
  have h0 : ar h.toNat = 0 := hk
  unfold ar at h0
  have e : ∀ n : Nat, n < 256 → (h.toNat : Int) = n → h = UInt8.ofNat n := fun n hn e => by
    apply UInt8.toNat_inj.1; rw [UInt8.toNat_ofNat_of_lt' (by simpa using hn)]; omega
  repeat' split at h0
  all_goals first | omega | skip
  rename_i h1
  rcases h1 with h1 | h1 | h1 | h1
  · exact .inl (e 105 (by omega) h1)
  · exact .inr (.inl (e 98 (by omega) h1))
  · exact .inr (.inr (.inl (e 116 (by omega) h1)))
  · exact .inr (.inr (.inr (e 63 (by omega) h1)))
theorem un_cases {h : UInt8} {a : Ty} (hk : (Ty.un h a).ok) : h = 108 ∨ h = 120 := by
  have h0 : ar h.toNat = 1 := hk.1
  unfold ar at h0
  have e : ∀ n : Nat, n < 256 → (h.toNat : Int) = n → h = UInt8.ofNat n := fun n hn e => by
    apply UInt8.toNat_inj.1; rw [UInt8.toNat_ofNat_of_lt' (by simpa using hn)]; omega
  repeat' split at h0
  all_goals first | omega | skip
  rename_i h1
  rcases h1 with h1 | h1
  · exact .inl (e 108 (by omega) h1)
  · exact .inr (e 120 (by omega) h1)
theorem bin_cases {h : UInt8} {a b : Ty} (hk : (Ty.bin h a b).ok) : h = 62 ∨ h = 44 := by
  have h0 : ar h.toNat = 2 := hk.1
  unfold ar at h0
  have e : ∀ n : Nat, n < 256 → (h.toNat : Int) = n → h = UInt8.ofNat n := fun n hn e => by
    apply UInt8.toNat_inj.1; rw [UInt8.toNat_ofNat_of_lt' (by simpa using hn)]; omega
  repeat' split at h0
  all_goals first | omega | skip
  rename_i h1
  rcases h1 with h1 | h1
  · exact .inl (e 62 (by omega) h1)
  · exact .inr (e 44 (by omega) h1)

structure ReadsAs (t : Ty) : Prop where
  arm : ∀ (d : Nat) (s r : List UInt8) (p : Nat), t.head ≠ 62 → depT t ≤ d → s.drop p = wordsT t ++ r → stop r → armP d (toks s p) = .yes t.code (toks s (p + (wordsT t).length))
  wrap : ∀ (d : Nat) (s r : List UInt8) (p : Nat), depW t ≤ d → s.drop p = wrapT t ++ r → stop r → armP d (toks s p) = .yes t.code (toks s (p + (wrapT t).length))
  one : ∀ (d : Nat) (s r : List UInt8) (p : Nat), depT t ≤ d → s.drop p = wordsT t ++ r → stop r → (hd (toks s (p + (wordsT t).length))).tx ≠ [45, 62] → oneP d (toks s p) = .yes t.code (toks s (p + (wordsT t).length))

theorem ReadsAs.mk' {t : Ty} 
    (h1 : ∀ (d : Nat) (s r : List UInt8) (p : Nat), t.head ≠ 62 → depT t ≤ d → s.drop p = wordsT t ++ r → stop r → armP d (toks s p) = .yes t.code (toks s (p + (wordsT t).length)))
    (h2 : ∀ (d : Nat) (s r : List UInt8) (p : Nat), t.head = 62 → depT t ≤ d → s.drop p = wordsT t ++ r → stop r → (hd (toks s (p + (wordsT t).length))).tx ≠ [45, 62] → oneP d (toks s p) = .yes t.code (toks s (p + (wordsT t).length))) : ReadsAs t := by
  have hone : ∀ (d : Nat) (s r : List UInt8) (p : Nat), depT t ≤ d → s.drop p = wordsT t ++ r → stop r → (hd (toks s (p + (wordsT t).length))).tx ≠ [45, 62] → oneP d (toks s p) = .yes t.code (toks s (p + (wordsT t).length)) := by
    intro d s r p hd0 hs hr ha
    by_cases e : t.head = 62
    · exact h2 d s r p e hd0 hs hr ha
    · exact one_of_arm (h1 d s r p e hd0 hs hr) ha
  refine ⟨h1, ?_, hone⟩
  intro d s r p hd0 hs hr
  by_cases e : t.head = 62
  · have ew : wrapT t = 40 :: (wordsT t ++ [41]) := by unfold wrapT parW; rw [e]; rfl
    have ed : depW t = depT t + 1 := by unfold depW; rw [if_pos e]
    rw [ew] at hs ⊢
    obtain ⟨d, rfl⟩ : ∃ d', d = d' + 1 := ⟨d - 1, by omega⟩
    have hs0 : s.drop p = [40] ++ (wordsT t ++ ([41] ++ r)) := by rw [hs]; simp
    have hs1 := drop_more hs0
    have hs2 := drop_more hs1
    have k3 := toks_punct (c := 41) hs2 (by decide)
    rw [armP_succ, armS_par (toks_punct (c := 40) hs0 (by decide)), hone d s ([41] ++ r) (p + 1) (by omega) hs1 (stop_cons (by decide)) (by
      rw [show p + 1 = p + [(40 : UInt8)].length from rfl, k3, hd_tx]; decide)]
    simp only
    rw [show p + 1 = p + [(40 : UInt8)].length from rfl, k3]
    unfold pairT endT
    rw [hd_tx, if_neg (by decide), if_pos rfl]
    simp only [List.length_cons, List.length_append, List.length_nil, List.tail_cons, Rd.yes.injEq, true_and]
    congr 1; omega
  · have ew : wrapT t = wordsT t := by unfold wrapT parW; rw [if_neg (by simpa using e)]
    have ed : depW t = depT t := by unfold depW; rw [if_neg e]
    rw [ew] at hs ⊢
    exact h1 d s r p e (by omega) hs hr

theorem reads_as (t : Ty) : t.ok → ReadsAs t := by
  induction t with
  | leaf h =>
    intro hk
    refine ReadsAs.mk' ?_ (fun d s r p e => absurd e (ok62_leaf hk))
    intro d s r p _ hd0 hs hr
    have key : ∀ (c : UInt8) (x : List UInt8), wordsT (.leaf h) = c :: x → (c :: x = wI ∨ c :: x = wB ∨ c :: x = wT ∨ c :: x = [63]) → c = h →
        (punctB c = true ∧ x = [] ∨ (blankB c = false ∧ punctB c = false ∧ c ≠ 45 ∧ letterB c = true) ∧ ∀ d ∈ x, insideB d = true) → armP d (toks s p) = .yes (Ty.leaf h).code (toks s (p + (wordsT (.leaf h)).length)) := by
      intro c x hw hb hc hx
      rw [hw] at hs ⊢
      have hk2 : toks s p = ⟨c :: x, p, false⟩ :: toks s (p + (c :: x).length) := by
        rcases hx with ⟨h1, rfl⟩ | ⟨h1, h2⟩
        · exact toks_punct hs h1
        · exact toks_word hs h1 h2 hr
      subst hc
      cases d with
      | zero => rw [armP_zero, armS_base hk2 hb]; rfl
      | succ d => rw [armP_succ, armS_base hk2 hb]; rfl
    rcases leaf_cases hk with rfl | rfl | rfl | rfl
    · exact key 105 [110, 116] rfl (by decide) rfl (.inr ⟨by decide, by decide⟩)
    · exact key 98 [111, 111, 108] rfl (by decide) rfl (.inr ⟨by decide, by decide⟩)
    · exact key 116 [101, 120, 116] rfl (by decide) rfl (.inr ⟨by decide, by decide⟩)
    · exact key 63 [] rfl (by decide) rfl (.inl ⟨by decide, rfl⟩)
  | un h a ih =>
    intro hk
    refine ReadsAs.mk' ?_ (fun d s r p e => absurd e (ok62_un hk))
    intro d s r p _ hd0 hs hr
    have ia := ih hk.2
    rcases un_cases hk with rfl | rfl
    · have ew : wordsT (.un 108 a) = 91 :: (wordsT a ++ [93]) := rfl
      have ed : depT (.un 108 a) = depT a + 1 := rfl
      rw [ew] at hs ⊢
      obtain ⟨d, rfl⟩ : ∃ d', d = d' + 1 := ⟨d - 1, by omega⟩
      have hs0 : s.drop p = [91] ++ (wordsT a ++ ([93] ++ r)) := by rw [hs]; simp
      have hs1 := drop_more hs0
      have hs2 := drop_more hs1
      have k3 := toks_punct (c := 93) hs2 (by decide)
      rw [armP_succ, armS_list (toks_punct (c := 91) hs0 (by decide)), ia.one d s ([93] ++ r) (p + 1) (by omega) hs1 (stop_cons (by decide)) (by
        rw [show p + 1 = p + [(91 : UInt8)].length from rfl, k3, hd_tx]; decide)]
      simp only
      rw [show p + 1 = p + [(91 : UInt8)].length from rfl, k3]
      unfold endT
      rw [hd_tx, if_pos rfl]
      simp only [List.length_cons, List.length_append, List.length_nil, List.tail_cons, Rd.yes.injEq]
      exact ⟨rfl, by congr 1; omega⟩
    · have ew : wordsT (.un 120 a) = wX ++ 32 :: wrapT a := rfl
      have ed : depT (.un 120 a) = depW a + 1 := rfl
      rw [ew] at hs ⊢
      obtain ⟨d, rfl⟩ : ∃ d', d = d' + 1 := ⟨d - 1, by omega⟩
      have hs0 : s.drop p = wX ++ ([32] ++ (wrapT a ++ r)) := by rw [hs]; simp
      have hs1 := drop_more hs0
      have hs2 := drop_more hs1
      rw [armP_succ, armS_box (toks_word (c := 98) (x := [111, 120]) hs0 (by decide) (by decide) (stop_cons (by decide))), show p + ([(111 : UInt8), 120].length + 1) = p + wX.length from rfl, toks_blank hs1,
        show p + wX.length + 1 = p + wX.length + [(32 : UInt8)].length from rfl, ia.wrap d s r _ (by omega) hs2 hr]
      simp only [List.length_cons, List.length_append, List.length_nil, Rd.yes.injEq]
      exact ⟨rfl, by congr 1; simp [wX]; omega⟩
  | bin h a b iha ihb =>
    intro hk
    have ia := iha hk.2.1
    have ib := ihb hk.2.2
    rcases bin_cases hk with rfl | rfl
    · refine ReadsAs.mk' (fun d s r p e => absurd rfl e) ?_
      intro d s r p _ hd0 hs hr hafter
      have ew : wordsT (.bin 62 a b) = wrapT a ++ ([32, 45, 62, 32] ++ wordsT b) := rfl
      have ed : depT (.bin 62 a b) = max (depW a) (depT b + 1) := rfl
      rw [ew] at hs hafter ⊢
      obtain ⟨d, rfl⟩ : ∃ d', d = d' + 1 := ⟨d - 1, by omega⟩
      have hs0 : s.drop p = wrapT a ++ ([32] ++ ([45, 62] ++ ([32] ++ (wordsT b ++ r)))) := by rw [hs]; simp
      have hs1 := drop_more hs0
      have hs2 := drop_more hs1
      have hs3 := drop_more hs2
      have hs4 := drop_more hs3
      have ea := ia.wrap (d + 1) s _ p (by omega) hs0 (stop_cons (by decide))
      rw [toks_blank hs1, show p + (wrapT a).length + 1 = p + (wrapT a).length + [(32 : UInt8)].length from rfl, toks_arrow hs2] at ea
      have el : p + (wrapT a).length + [(32 : UInt8)].length + [(45 : UInt8), 62].length + [(32 : UInt8)].length + (wordsT b).length = p + (wrapT a ++ ([32, 45, 62, 32] ++ wordsT b)).length := by
        simp only [List.length_append, List.length_cons, List.length_nil]; omega
      have eb := ib.one d s r _ (by omega) hs4 hr (by rw [el]; exact hafter)
      rw [oneP_succ]
      unfold oneS
      rw [ea]
      simp only
      rw [hd_tx, if_pos rfl]
      simp only [Bool.false_eq_true, if_false, List.tail_cons]
      rw [show p + (wrapT a).length + [(32 : UInt8)].length + 2 = p + (wrapT a).length + [(32 : UInt8)].length + [(45 : UInt8), 62].length from rfl, toks_blank hs3,
        show p + (wrapT a).length + [(32 : UInt8)].length + [(45 : UInt8), 62].length + 1 = p + (wrapT a).length + [(32 : UInt8)].length + [(45 : UInt8), 62].length + [(32 : UInt8)].length from rfl, eb]
      simp only
      rw [el]; rfl
    · refine ReadsAs.mk' ?_ (fun d s r p e => absurd (show (44 : UInt8) = 62 from e) (by decide))
      intro d s r p _ hd0 hs hr
      have ew : wordsT (.bin 44 a b) = 40 :: (wordsT a ++ ([44, 32] ++ (wordsT b ++ [41]))) := rfl
      have ed : depT (.bin 44 a b) = max (depT a) (depT b) + 1 := rfl
      rw [ew] at hs ⊢
      obtain ⟨d, rfl⟩ : ∃ d', d = d' + 1 := ⟨d - 1, by omega⟩
      have hs0 : s.drop p = [40] ++ (wordsT a ++ ([44] ++ ([32] ++ (wordsT b ++ ([41] ++ r))))) := by rw [hs]; simp
      have hs1 := drop_more hs0
      have hs2 := drop_more hs1
      have hs3 := drop_more hs2
      have hs4 := drop_more hs3
      have hs5 := drop_more hs4
      have k3 := toks_punct (c := 44) hs2 (by decide)
      have k5 := toks_punct (c := 41) hs5 (by decide)
      have ea := ia.one d s _ _ (by omega) hs1 (stop_cons (by decide)) (by rw [k3, hd_tx]; decide)
      have eb := ib.one d s _ _ (by omega) hs4 (stop_cons (by decide)) (by rw [k5, hd_tx]; decide)
      have el : p + [(40 : UInt8)].length + (wordsT a).length + [(44 : UInt8)].length + [(32 : UInt8)].length + (wordsT b).length + 1 = p + (40 :: (wordsT a ++ ([44, 32] ++ (wordsT b ++ [41])))).length := by
        simp only [List.length_append, List.length_cons, List.length_nil]; omega
      rw [armP_succ, armS_par (toks_punct (c := 40) hs0 (by decide)), show p + 1 = p + [(40 : UInt8)].length from rfl, ea]
      simp only
      unfold pairT
      rw [k3, hd_tx, if_pos rfl, List.tail_cons, show p + [(40 : UInt8)].length + (wordsT a).length + 1 = p + [(40 : UInt8)].length + (wordsT a).length + [(44 : UInt8)].length from rfl, toks_blank hs3,
        show p + [(40 : UInt8)].length + (wordsT a).length + [(44 : UInt8)].length + 1 = p + [(40 : UInt8)].length + (wordsT a).length + [(44 : UInt8)].length + [(32 : UInt8)].length from rfl, eb]
      simp only
      unfold endT
      rw [k5, hd_tx, if_pos rfl, List.tail_cons, el]; rfl

/-- A type's words are read as the type. -/
theorem read_words {t : Ty} (hk : t.ok) (h64 : t.code.length ≤ 64) : readL (wordsT t) = (t.code, 0, 0) := by
  have h := (reads_as t hk).one 64 (wordsT t) [] 0 (by have := (dep_le hk).1; omega) (by simp) (fun c h => by cases h)
  have he : toks (wordsT t) (0 + (wordsT t).length) = [⟨[], 0 + (wordsT t).length, false⟩] := by
    have hl : lex ((wordsT t).drop (0 + (wordsT t).length)) (0 + (wordsT t).length) = ⟨[], 0 + (wordsT t).length, false⟩ := by rw [List.drop_eq_nil_of_le (by omega)]; rfl
    rw [toks_end (by rw [hl]), hl]
  rw [he] at h
  unfold readL
  rw [h (by rw [hd_tx]; decide)]
  unfold readE
  simp only
  rw [hd_cons, if_neg (by simp), if_neg (by omega)]

/-- What is read is a type's letters. -/
def TyR (r : Rd) : Prop := ∀ t ts, r = .yes t ts → ∃ T : Ty, T.ok ∧ T.code = t
theorem TyR.no (e p : Nat) : TyR (.no e p) := fun _ _ h => by cases h
theorem armS_ty {z : Bool} {one arm : List Tok → Rd} (h1 : ∀ ts, TyR (one ts)) (h2 : ∀ ts, TyR (arm ts)) (ts : List Tok) : TyR (armS z one arm ts) := by
  unfold armS
  split
  · rename_i h
    intro t ts' e
    injection e with e _
    subst e
    rcases h with h | h | h | h <;> rw [h]
    · exact ⟨.leaf 105, by show arB 105 = 0; decide, rfl⟩
    · exact ⟨.leaf 98, by show arB 98 = 0; decide, rfl⟩
    · exact ⟨.leaf 116, by show arB 116 = 0; decide, rfl⟩
    · exact ⟨.leaf 63, by show arB 63 = 0; decide, rfl⟩
  · have hend : ∀ (t x : List UInt8) (ts' : List Tok), (∃ T : Ty, T.ok ∧ T.code = t) → TyR (endT t x ts') := by
      intro t x ts' hT
      unfold endT
      split
      · intro t' ts'' e; injection e with e _; subst e; exact hT
      · exact TyR.no _ _
    split
    · split
      · exact TyR.no _ _
      · rcases ho : one ts.tail with ⟨e, p⟩ | ⟨t, ts1⟩
        · exact TyR.no _ _
        · obtain ⟨T, hT, rfl⟩ := h1 _ _ _ ho
          simp only
          unfold pairT
          split
          · rcases ho2 : one ts1.tail with ⟨e, p⟩ | ⟨u, ts2⟩
            · exact TyR.no _ _
            · obtain ⟨U, hU, rfl⟩ := h1 _ _ _ ho2
              exact hend _ _ _ ⟨.bin 44 T U, ⟨by decide, hT, hU⟩, rfl⟩
          · exact hend _ _ _ ⟨T, hT, rfl⟩
    · split
      · split
        · exact TyR.no _ _
        · rcases ho : one ts.tail with ⟨e, p⟩ | ⟨t, ts1⟩
          · exact TyR.no _ _
          · obtain ⟨T, hT, rfl⟩ := h1 _ _ _ ho
            exact hend _ _ _ ⟨.un 108 T, ⟨by decide, hT⟩, rfl⟩
      · split
        · split
          · exact TyR.no _ _
          · rcases ho : arm ts.tail with ⟨e, p⟩ | ⟨t, ts1⟩
            · exact TyR.no _ _
            · obtain ⟨T, hT, rfl⟩ := h2 _ _ _ ho
              intro t' ts' e
              injection e with e _
              subst e
              exact ⟨.un 120 T, ⟨by decide, hT⟩, rfl⟩
        · exact TyR.no _ _
theorem oneS_ty {z : Bool} {one arm : List Tok → Rd} (h1 : ∀ ts, TyR (one ts)) (h2 : ∀ ts, TyR (arm ts)) (ts : List Tok) : TyR (oneS z one arm ts) := by
  unfold oneS
  rcases ha : arm ts with ⟨e, p⟩ | ⟨a, ts1⟩
  · exact TyR.no _ _
  · obtain ⟨T, hT, rfl⟩ := h2 _ _ _ ha
    simp only
    split
    · split
      · exact TyR.no _ _
      · rcases ho : one ts1.tail with ⟨e, p⟩ | ⟨b, ts2⟩
        · exact TyR.no _ _
        · obtain ⟨U, hU, rfl⟩ := h1 _ _ _ ho
          intro t' ts' e
          injection e with e _
          subst e
          exact ⟨.bin 62 T U, ⟨by decide, hT, hU⟩, rfl⟩
    · intro t' ts' e; injection e with e _; subst e; exact ⟨T, hT, rfl⟩
theorem prs_ty (d : Nat) : (∀ ts, TyR (oneP d ts)) ∧ (∀ ts, TyR (armP d ts)) := by
  induction d with
  | zero =>
    have ha : ∀ ts, TyR (armP 0 ts) := fun ts => by rw [armP_zero]; exact armS_ty (fun _ => TyR.no _ _) (fun _ => TyR.no _ _) ts
    exact ⟨fun ts => by rw [oneP_zero]; exact oneS_ty (fun _ => TyR.no _ _) ha ts, ha⟩
  | succ d ih =>
    have ha : ∀ ts, TyR (armP (d + 1) ts) := fun ts => by rw [armP_succ]; exact armS_ty ih.1 ih.2 ts
    exact ⟨fun ts => by rw [oneP_succ]; exact oneS_ty ih.1 ha ts, ha⟩
/-- A fault is none that says there is none. -/
def NzR (r : Rd) : Prop := ∀ e p, r = .no e p → e ≠ 0
theorem NzR.yes (t : List UInt8) (ts : List Tok) : NzR (.yes t ts) := fun _ _ h => by cases h
theorem NzR.fail {e : Nat} (he : e ≠ 0) (ts : List Tok) : NzR (failT e ts) := by
  intro e' p h
  unfold failT at h
  injection h with h _
  subst h
  split
  · decide
  · exact he
theorem NzR.end_ (t x : List UInt8) (ts : List Tok) : NzR (endT t x ts) := by
  unfold endT; split
  · exact NzR.yes _ _
  · exact NzR.fail (by decide) _
theorem NzR.then_ (r : Rd) {f : List UInt8 → List Tok → Rd} (hf : ∀ t ts, NzR (f t ts)) : NzR r → NzR (match r with | .no e p => .no e p | .yes t ts => f t ts) := by
  intro h
  rcases r with ⟨e, p⟩ | ⟨t, ts⟩
  · exact h
  · exact hf t ts
theorem armS_nz {z : Bool} {one arm : List Tok → Rd} (h1 : z = false → ∀ ts, NzR (one ts)) (h2 : z = false → ∀ ts, NzR (arm ts)) (ts : List Tok) : NzR (armS z one arm ts) := by
  unfold armS
  split
  · exact NzR.yes _ _
  · cases z
    · have h1 := h1 rfl
      have h2 := h2 rfl
      simp only [Bool.false_eq_true, if_false]
      split
      · refine NzR.then_ _ (fun t ts => ?_) (h1 _)
        unfold pairT
        split
        · exact NzR.then_ _ (fun t ts => NzR.end_ _ _ _) (h1 _)
        · exact NzR.end_ _ _ _
      · split
        · exact NzR.then_ _ (fun t ts => NzR.end_ _ _ _) (h1 _)
        · split
          · exact NzR.then_ _ (fun t ts => NzR.yes _ _) (h2 _)
          · exact NzR.fail (by decide) _
    · simp only [if_true]
      repeat' split
      all_goals exact NzR.fail (by decide) _
theorem oneS_nz {z : Bool} {one arm : List Tok → Rd} (h1 : z = false → ∀ ts, NzR (one ts)) (h2 : ∀ ts, NzR (arm ts)) (ts : List Tok) : NzR (oneS z one arm ts) := by
  unfold oneS
  refine NzR.then_ _ (fun t ts => ?_) (h2 _)
  split
  · cases z
    · simp only [Bool.false_eq_true, if_false]
      exact NzR.then_ _ (fun t ts => NzR.yes _ _) (h1 rfl _)
    · exact NzR.fail (by decide) _
  · exact NzR.yes _ _
theorem prs_nz (d : Nat) : (∀ ts, NzR (oneP d ts)) ∧ (∀ ts, NzR (armP d ts)) := by
  induction d with
  | zero =>
    have ha : ∀ ts, NzR (armP 0 ts) := fun ts => by rw [armP_zero]; exact armS_nz (fun h => by cases h) (fun h => by cases h) ts
    exact ⟨fun ts => by rw [oneP_zero]; exact oneS_nz (fun h => by cases h) ha ts, ha⟩
  | succ d ih =>
    have ha : ∀ ts, NzR (armP (d + 1) ts) := fun ts => by rw [armP_succ]; exact armS_nz (fun _ => ih.1) (fun _ => ih.2) ts
    exact ⟨fun ts => by rw [oneP_succ]; exact oneS_nz (fun _ => ih.1) ha ts, ha⟩
theorem read_ty {s : List UInt8} (h : (readL s).2.1 = 0) : ∃ T : Ty, T.ok ∧ T.code = (readL s).1 ∧ T.code.length ≤ 64 := by
  have ht := (prs_ty 64).1 (toks s 0)
  unfold readL at h ⊢
  rcases ho : oneP 64 (toks s 0) with ⟨e, p⟩ | ⟨t, ts⟩
  · rw [ho] at h
    exact absurd h ((prs_nz 64).1 (toks s 0) e p ho)
  · rw [ho] at h ht
    obtain ⟨T, hT, rfl⟩ := ht _ _ rfl
    unfold readE at h ⊢
    simp only at h ⊢
    split at h
    · split at h <;> simp at h
    · rename_i h1
      rw [if_neg h1]
      split at h
      · simp at h
      · rename_i h2
        rw [if_neg h2]
        exact ⟨T, hT, rfl, by omega⟩

end Go.Proofs.YthonnpjlkcjoeaaGreatDoor.T
