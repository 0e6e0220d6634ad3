/- Types as trees, and the letters of their texts; no program in sight. -/
namespace Go.Proofs.YtjklecncdinabaaGreatDoor.T

/-- How many parts a letter's head has; -1: it is none. -/
def ar (c : Int) : Int := if c = 105 ∨ c = 98 ∨ c = 116 ∨ c = 63 then 0 else if c = 108 ∨ c = 120 then 1 else if c = 62 ∨ c = 44 then 2 else -1
def arB (c : UInt8) : Int := ar c.toNat

theorem ar_lo (c : Int) : -1 ≤ ar c ∧ ar c ≤ 2 := by unfold ar; repeat' split
                                                     all_goals omega

inductive Ty where
  | leaf (h : UInt8)
  | un (h : UInt8) (a : Ty)
  | bin (h : UInt8) (a b : Ty)

namespace Ty
def ok : Ty → Prop
  | leaf h => arB h = 0
  | un h a => arB h = 1 ∧ a.ok
  | bin h a b => arB h = 2 ∧ a.ok ∧ b.ok
def code : Ty → List UInt8
  | leaf h => [h]
  | un h a => h :: a.code
  | bin h a b => h :: (a.code ++ b.code)
def head : Ty → UInt8
  | leaf h => h
  | un h _ => h
  | bin h _ _ => h
def kids : Ty → List Ty
  | leaf _ => []
  | un _ a => [a]
  | bin _ a b => [a, b]
def high : Ty → Nat
  | leaf _ => 1
  | un _ a => a.high + 1
  | bin _ a b => max a.high b.high + 1
theorem code_pos (t : Ty) : 0 < t.code.length := by cases t <;> simp [code]
theorem code_head (t : Ty) : t.code.head? = some t.head := by cases t <;> rfl
theorem code_eq (t : Ty) : t.code = t.head :: t.kids.flatMap code := by cases t <;> simp [code, head, kids]
theorem kids_ok {t k : Ty} (h : t.ok) (hk : k ∈ t.kids) : k.ok := by
  cases t <;> simp only [kids, List.not_mem_nil, List.mem_cons, or_false] at hk
  · subst hk; exact h.2
  · rcases hk with rfl | rfl
    · exact h.2.1
    · exact h.2.2
theorem kid_code {t k : Ty} (hk : k ∈ t.kids) : k.code.length < t.code.length := by
  cases t <;> simp only [kids, List.not_mem_nil, List.mem_cons, or_false] at hk
  · subst hk; simp [code]
  · rcases hk with rfl | rfl <;> simp [code] <;> omega
theorem kids_le (t : Ty) : t.kids.length ≤ 2 := by cases t <;> simp [kids]
theorem ar_head {t : Ty} (h : t.ok) : arB t.head = t.kids.length := by
  cases t
  · exact h
  · exact h.1
  · exact h.1
end Ty

/-- skip: how many letters on, and whether a type goes on there. -/
def skipN : List UInt8 → Nat → Nat × Bool
  | _, 0 => (0, true)
  | [], _ + 1 => (0, false)
  | c :: l, n + 1 => if arB c < 0 then (0, false) else ((skipN l (n + (arB c).toNat)).1 + 1, (skipN l (n + (arB c).toNat)).2)

theorem skipN_le (l : List UInt8) : ∀ n, (skipN l n).1 ≤ l.length := by
  induction l with
  | nil => intro n; cases n <;> simp [skipN]
  | cons c l ih =>
    intro n
    cases n with
    | zero => simp [skipN]
    | succ n =>
      simp only [skipN]
      split
      · simp
      · simpa using ih _

theorem skipN_code (t : Ty) : t.ok → ∀ (r : List UInt8) (n : Nat), skipN (t.code ++ r) (n + 1) = ((skipN r n).1 + t.code.length, (skipN r n).2) := by
  induction t with
  | leaf h =>
    intro hk r n
    have ha : arB h = 0 := hk
    simp [Ty.code, skipN, ha]
  | un h a ih =>
    intro hk r n
    have ha : arB h = 1 := hk.1
    simp only [Ty.code, List.cons_append, skipN, ha]
    rw [if_neg (by omega), show n + (1 : Int).toNat = n + 1 from rfl, ih hk.2]
    simp [Nat.add_assoc]
  | bin h a b iha ihb =>
    intro hk r n
    have ha : arB h = 2 := hk.1
    simp only [Ty.code, List.cons_append, List.append_assoc, skipN, ha]
    rw [if_neg (by omega), show n + (2 : Int).toNat = (n + 1) + 1 from rfl, iha hk.2.1, ihb hk.2.2]
    simp only [List.length_cons, List.length_append]
    exact Prod.ext (by simp only; omega) rfl

/-- What skip takes as n types is the letters of n types. -/
theorem skipN_types (l : List UInt8) : ∀ n, (skipN l n).2 = true → ∃ ts : List Ty, ts.length = n ∧ (∀ t ∈ ts, t.ok) ∧ ∃ r, l = ts.flatMap Ty.code ++ r ∧ (skipN l n).1 = (ts.flatMap Ty.code).length := by
  induction l with
  | nil =>
    intro n h
    cases n with
    | zero => exact ⟨[], rfl, by simp, [], by simp, by simp [skipN]⟩
    | succ n => simp [skipN] at h
  | cons c l ih =>
    intro n h
    cases n with
    | zero => exact ⟨[], rfl, by simp, c :: l, by simp, by simp [skipN]⟩
    | succ n =>
      simp only [skipN] at h ⊢
      split at h
      · simp at h
      · rename_i hc
        rw [if_neg hc]
        obtain ⟨ts, hl, hok, r, e, he⟩ := ih _ h
        have hb := ar_lo c.toNat
        have hcase : arB c = 0 ∨ arB c = 1 ∨ arB c = 2 := by unfold arB at *; omega
        rcases hcase with ha | ha | ha
        · rw [ha] at hl he
          refine ⟨.leaf c :: ts, by simp only [List.length_cons, hl]; omega, ?_, r, ?_, ?_⟩
          · intro t ht
            rcases List.mem_cons.1 ht with rfl | ht
            · exact ha
            · exact hok t ht
          · simp [Ty.code, e]
          · rw [ha, he]; simp [Ty.code]
        · rw [ha] at hl he
          match ts, hl with
          | a :: ts, hl =>
            refine ⟨.un c a :: ts, by simp at hl ⊢; omega, ?_, r, ?_, ?_⟩
            · intro t ht
              rcases List.mem_cons.1 ht with rfl | ht
              · exact ⟨ha, hok a (by simp)⟩
              · exact hok t (by simp [ht])
            · simp [Ty.code, e]
            · rw [ha, he]; simp [Ty.code]
        · rw [ha] at hl he
          match ts, hl with
          | a :: b :: ts, hl =>
            refine ⟨.bin c a b :: ts, by simp at hl ⊢; omega, ?_, r, ?_, ?_⟩
            · intro t ht
              rcases List.mem_cons.1 ht with rfl | ht
              · exact ⟨ha, hok a (by simp), hok b (by simp)⟩
              · exact hok t (by simp [ht])
            · simp [Ty.code, e]
            · rw [ha, he]; simp [Ty.code]

/-- Check, on letters: the error and the place. -/
def checkL (l : List UInt8) : Nat × Nat := if 64 < l.length then (21, 64) else if (skipN l 1).2 = false ∨ (skipN l 1).1 < l.length then (20, (skipN l 1).1) else (0, 0)

theorem check_ok {l : List UInt8} : (checkL l).1 = 0 ↔ ∃ t : Ty, t.ok ∧ t.code = l ∧ l.length ≤ 64 := by
  unfold checkL
  constructor
  · intro h
    split at h
    · simp at h
    · rename_i h64
      split at h
      · simp at h
      · rename_i hs
        have h1 : (skipN l 1).2 = true := by cases hb : (skipN l 1).2 <;> simp_all
        have h2 : l.length ≤ (skipN l 1).1 := by
          rcases Nat.lt_or_ge (skipN l 1).1 l.length with h | h
          · exact absurd (Or.inr h) hs
          · exact h
        obtain ⟨ts, hl, hok, r, e, he⟩ := skipN_types l 1 h1
        match ts, hl with
        | [t], _ =>
          simp only [List.flatMap_cons, List.flatMap_nil, List.append_nil] at e he
          have hr : r = [] := by
            apply List.eq_nil_of_length_eq_zero
            have := congrArg List.length e
            simp only [List.length_append] at this
            omega
          subst hr
          exact ⟨t, hok t (by simp), by rw [e]; simp, by omega⟩
  · rintro ⟨t, hok, rfl, h64⟩
    have := skipN_code t hok [] 0
    simp only [List.append_nil, skipN] at this
    rw [if_neg (by omega), this]
    simp

theorem check_code {t : Ty} (h : t.ok) (h64 : t.code.length ≤ 64) : checkL t.code = (0, 0) := by
  have h1 : (checkL t.code).1 = 0 := check_ok.2 ⟨t, h, rfl, h64⟩
  have := skipN_code t h [] 0
  simp only [List.append_nil, skipN] at this
  unfold checkL
  rw [if_neg (by omega), this]
  simp

theorem code_inj {t u : Ty} (ht : t.ok) (hu : u.ok) (h : t.code = u.code) : t = u := by
  suffices H : ∀ (t : Ty), t.ok → ∀ (u : Ty) (r s : List UInt8), u.ok → t.code ++ r = u.code ++ s → t = u ∧ r = s from (H t ht u [] [] hu (by simp [h])).1
  intro t
  induction t with
  | leaf a =>
    intro ht u r s hu h
    cases u with
    | leaf b => simp [Ty.code] at h; exact ⟨by rw [h.1], h.2⟩
    | un b c => simp [Ty.code] at h; have h1 : arB a = 0 := ht; have h2 : arB b = 1 := hu.1; rw [h.1] at h1; omega
    | bin b c d => simp [Ty.code] at h; have h1 : arB a = 0 := ht; have h2 : arB b = 2 := hu.1; rw [h.1] at h1; omega
  | un a t ih =>
    intro ht u r s hu h
    cases u with
    | leaf b => simp [Ty.code] at h; have h1 : arB a = 1 := ht.1; have h2 : arB b = 0 := hu; rw [h.1] at h1; omega
    | un b c =>
      simp [Ty.code] at h
      obtain ⟨e1, e2⟩ := ih ht.2 c r s hu.2 h.2
      exact ⟨by rw [h.1, e1], e2⟩
    | bin b c d => simp [Ty.code] at h; have h1 : arB a = 1 := ht.1; have h2 : arB b = 2 := hu.1; rw [h.1] at h1; omega
  | bin a t1 t2 ih1 ih2 =>
    intro ht u r s hu h
    cases u with
    | leaf b => simp [Ty.code] at h; have h1 : arB a = 2 := ht.1; have h2 : arB b = 0 := hu; rw [h.1] at h1; omega
    | un b c => simp [Ty.code] at h; have h1 : arB a = 2 := ht.1; have h2 : arB b = 1 := hu.1; rw [h.1] at h1; omega
    | bin b c d =>
      simp [Ty.code] at h
      obtain ⟨e1, e2⟩ := ih1 ht.2.1 c _ _ hu.2.1 h.2
      obtain ⟨e3, e4⟩ := ih2 ht.2.2 d _ _ hu.2.2 e2
      exact ⟨by rw [h.1, e1, e3], e4⟩

/-- How many letters the first k of some types have. -/
def clen (K : List Ty) (k : Nat) : Nat := ((K.take k).flatMap Ty.code).length
theorem clen_zero (K : List Ty) : clen K 0 = 0 := rfl
theorem take_succ_some {α : Type} {K : List α} {k : Nat} {T : α} (h : K[k]? = some T) : K.take (k + 1) = K.take k ++ [T] := by rw [List.take_add_one, h]; rfl
theorem clen_succ {K : List Ty} {k : Nat} {T : Ty} (h : K[k]? = some T) : clen K (k + 1) = clen K k + T.code.length := by
  unfold clen; rw [take_succ_some h]; simp
theorem clen_all (K : List Ty) : clen K K.length = (K.flatMap Ty.code).length := by unfold clen; rw [List.take_length]
theorem drop_clen {K : List Ty} {k : Nat} {T : Ty} (h : K[k]? = some T) : (K.flatMap Ty.code).drop (clen K k) = T.code ++ (K.drop (k + 1)).flatMap Ty.code := by
  have hlt := (List.getElem?_eq_some_iff.1 h).1
  have h1 : K[k] = T := (List.getElem?_eq_some_iff.1 h).2
  have e : K.flatMap Ty.code = (K.take k).flatMap Ty.code ++ (T.code ++ (K.drop (k + 1)).flatMap Ty.code) := by
    have h2 : K = K.take k ++ T :: K.drop (k + 1) := by rw [← h1, List.getElem_cons_drop, List.take_append_drop]
    have h3 := congrArg (List.flatMap Ty.code) h2
    rw [List.flatMap_append, List.flatMap_cons] at h3
    exact h3
  rw [e]
  exact List.drop_left

end Go.Proofs.YtjklecncdinabaaGreatDoor.T
