/- Coercions as trees, plain: what meets, both as one, the laws. No program in sight. -/
namespace Go.Proofs.YtjklecncdinabaaGreatDoor.C
set_option linter.unusedSimpArgs false
set_option linter.unusedVariables false

/-- A node of a coercion's list. -/
structure Nd where
  op : Int
  pj : Int
  ij : Bool
  hd : Int
  lb : Int
  fr : Int
  to : Int

/-- Of a head: the op, how many kids. -/
def opsO (h : Int) : Int := if h = 105 ∨ h = 98 ∨ h = 116 then 2 else if h = 62 then 3 else if h = 44 then 4 else if h = 108 then 5 else if h = 120 then 6 else 0
def opsN (h : Int) : Nat := if h = 62 ∨ h = 44 ∨ h = 120 then 2 else if h = 108 then 1 else 0

/-- Trees: anything; a failure; a part. A kid that a part's head has not is 'any'. -/
inductive Co where
  | any
  | fail (p l f t : Int)
  | part (p : Int) (j : Bool) (h : Int) (a b : Co)

namespace Co
def begins : Co → Bool
  | any => true
  | fail p _ _ _ => p != 0
  | part p _ _ _ _ => p != 0
def ends : Co → Bool
  | any => true
  | fail _ _ _ _ => true
  | part _ j _ _ _ => j
def sz : Co → Nat
  | part _ _ _ a b => a.sz + b.sz + 1
  | _ => 0
/-- The kids that there are. -/
def kids : Co → List Co
  | part _ _ h a b => [a, b].take (opsN h)
  | _ => []
def high : Co → Nat
  | part _ _ h a b => if opsN h = 0 then 1 else if opsN h = 1 then a.high + 1 else max a.high b.high + 1
  | _ => 1
def list : Co → List Nd
  | any => [⟨1, 0, false, 0, 0, 0, 0⟩]
  | fail p l f t => [⟨7, p, false, f, l, f, t⟩]
  | part p j h a b => ⟨opsO h, p, j, h, 0, 0, 0⟩ :: ((if 1 ≤ opsN h then a.list else []) ++ (if 2 ≤ opsN h then b.list else []))
theorem list_pos (t : Co) : 0 < t.list.length := by cases t <;> simp [list]
theorem high_pos (t : Co) : 1 ≤ t.high := by
  cases t <;> simp only [high] <;> (try omega)
  split
  · omega
  · split <;> omega
end Co

theorem opsN_le (h : Int) : opsN h = 0 ∨ opsN h = 1 ∨ opsN h = 2 := by unfold opsN; split
                                                                       · simp
                                                                       · split <;> simp

def lbl (n : Int) : Prop := n ≠ 0 ∧ -2147483647 ≤ n ∧ n ≤ 2147483647
def prj (n : Int) : Prop := n = 0 ∨ lbl n

/-- Does the kid of that number go the other way round? -/
def turnd (h : Int) (i : Nat) : Bool := (h == 62 && i == 0) || (h == 120 && i == 1)
def kidOk (p : Int) (j : Bool) (tu : Bool) (k : Co) : Prop := (p ≠ 0 → (if tu then k.ends else k.begins) = true) ∧ (j = true → (if tu then k.begins else k.ends) = true)

def okC : Co → Prop
  | .any => True
  | .fail p l f t => prj p ∧ lbl l ∧ opsO f ≠ 0 ∧ opsO t ≠ 0 ∧ t ≠ f
  | .part p j h a b => prj p ∧ opsO h ≠ 0 ∧ (opsN h = 0 → a = .any) ∧ (opsN h ≤ 1 → b = .any) ∧ kidOk p j (turnd h 0) a ∧ okC a ∧ kidOk p j (turnd h 1) b ∧ okC b

def meetC : Co → Co → Bool
  | .any, t => t.begins
  | .fail _ _ _ _, _ => true
  | .part _ j _ _ _, .any => j
  | .part _ j h _ _, .fail p _ f _ => (j == (p != 0)) && (j || h == f)
  | .part _ j h a b, .part p _ k c d => if j != (p != 0) || h != k then j && (p != 0) else (if turnd h 0 then meetC c a else meetC a c) && (if turnd h 1 then meetC d b else meetC b d)
  termination_by s t => s.sz + t.sz
  decreasing_by all_goals (simp only [Co.sz]; omega)

def thenC : Co → Co → Co
  | .any, t => t
  | .fail p l f t, _ => .fail p l f t
  | .part p j h a b, .any => .part p j h a b
  | .part p j h _ _, .fail q l f t => if j && h != f then .fail p q h f else .fail p l f t
  | .part p j h a b, .part q i k c d => if j && h != k then .fail p q h k else .part p i h (if turnd h 0 then thenC c a else thenC a c) (if turnd h 1 then thenC d b else thenC b d)
  termination_by s t => s.sz + t.sz
  decreasing_by all_goals (simp only [Co.sz]; omega)

/-- Kid by kid. -/
def meetK (h : Int) (i : Nat) (a c : Co) : Bool := if turnd h i then meetC c a else meetC a c
def thenK (h : Int) (i : Nat) (a c : Co) : Co := if turnd h i then thenC c a else thenC a c

theorem meet_any (t : Co) : meetC .any t = t.begins := by unfold meetC; rfl
theorem meet_fail (p l f t : Int) (u : Co) : meetC (.fail p l f t) u = true := by unfold meetC; rfl
theorem meet_pa (p : Int) (j : Bool) (h : Int) (a b : Co) : meetC (.part p j h a b) .any = j := by unfold meetC; rfl
theorem meet_pf {p : Int} {j : Bool} {h : Int} {a b : Co} {q l f t : Int} : meetC (.part p j h a b) (.fail q l f t) = true ↔ j = (q != 0) ∧ (j = true ∨ h = f) := by
  unfold meetC; simp
theorem meet_pp {p : Int} {j : Bool} {h : Int} {a b : Co} {q : Int} {i : Bool} {k : Int} {c d : Co} :
    meetC (.part p j h a b) (.part q i k c d) = true ↔ (j = true ∧ q ≠ 0 ∧ h ≠ k) ∨ (j = (q != 0) ∧ h = k ∧ meetK h 0 a c = true ∧ meetK h 1 b d = true) := by
  rw [meetC]
  unfold meetK
  by_cases hk : h = k
  · subst hk
    cases j <;> by_cases hq : q = 0 <;> simp [hq]
  · have hk' : (h != k) = true := by simpa using hk
    rw [hk']
    cases j <;> by_cases hq : q = 0 <;> simp [hq, hk]
theorem then_any (t : Co) : thenC .any t = t := by unfold thenC; rfl
theorem then_fail (p l f t : Int) (u : Co) : thenC (.fail p l f t) u = .fail p l f t := by unfold thenC; rfl
theorem then_r (s : Co) : thenC s .any = s := by cases s <;> (unfold thenC; rfl)
theorem then_pf (p : Int) (j : Bool) (h : Int) (a b : Co) (q l f t : Int) : thenC (.part p j h a b) (.fail q l f t) = if j = true ∧ h ≠ f then .fail p q h f else .fail p l f t := by
  unfold thenC; simp
theorem then_pp (p : Int) (j : Bool) (h : Int) (a b : Co) (q : Int) (i : Bool) (k : Int) (c d : Co) :
    thenC (.part p j h a b) (.part q i k c d) = if j = true ∧ h ≠ k then .fail p q h k else .part p i h (thenK h 0 a c) (thenK h 1 b d) := by
  rw [thenC]; unfold thenK; simp

theorem begins_then {s t : Co} (hs : s.begins = true) (hm : meetC s t = true) : (thenC s t).begins = true := by
  cases s with
  | any => rw [then_any]; rw [meet_any] at hm; exact hm
  | fail p l f q => rw [then_fail]; exact hs
  | part p j h a b =>
    cases t with
    | any => rw [then_r]; exact hs
    | fail q l f t => rw [then_pf]; split <;> exact hs
    | part q i k c d => rw [then_pp]; split <;> exact hs
theorem ends_then {s t : Co} (ht : t.ends = true) (hm : meetC s t = true) : (thenC s t).ends = true := by
  cases s with
  | any => rw [then_any]; exact ht
  | fail p l f q => rw [then_fail]; rfl
  | part p j h a b =>
    cases t with
    | any => rw [then_r]; rw [meet_pa] at hm; exact hm
    | fail q l f t => rw [then_pf]; split <;> rfl
    | part q i k c d =>
      rw [then_pp]
      split
      · rfl
      · exact ht

theorem ends_begins_meet (n : Nat) : ∀ s t : Co, s.sz + t.sz ≤ n → okC s → okC t → s.ends = true → t.begins = true → meetC s t = true := by
  induction n with
  | zero =>
    intro s t hn hs ht he hb
    cases s with
    | any => rw [meet_any]; exact hb
    | fail p l f q => exact meet_fail _ _ _ _ _
    | part p j h a b => simp [Co.sz] at hn
  | succ n ih =>
    intro s t hn hs ht he hb
    cases s with
    | any => rw [meet_any]; exact hb
    | fail p l f q => exact meet_fail _ _ _ _ _
    | part p j h a b =>
      have hj : j = true := he
      subst hj
      cases t with
      | any => exact meet_pa _ _ _ _ _
      | fail q l f t =>
        have hq : (q != 0) = true := hb
        rw [meet_pf]; exact ⟨hq.symm, .inl rfl⟩
      | part q i k c d =>
        have hq : (q != 0) = true := hb
        have hq' : q ≠ 0 := by simpa using hq
        rw [meet_pp]
        by_cases hk : h = k
        · subst hk
          obtain ⟨_, _, _, _, ha, oa, hb', ob⟩ := hs
          obtain ⟨_, _, _, _, hc, oc, hd, od⟩ := ht
          have h1 := ha.2 rfl
          have h2 := hb'.2 rfl
          have h3 := hc.1 hq'
          have h4 := hd.1 hq'
          simp only [Co.sz] at hn
          refine .inr ⟨hq.symm, rfl, ?_, ?_⟩
          · unfold meetK
            cases hT : turnd h 0
            · rw [hT] at h1 h3; exact ih _ _ (by omega) oa oc h1 h3
            · rw [hT] at h1 h3; exact ih _ _ (by omega) oc oa h3 h1
          · unfold meetK
            cases hT : turnd h 1
            · rw [hT] at h2 h4; exact ih _ _ (by omega) ob od h2 h4
            · rw [hT] at h2 h4; exact ih _ _ (by omega) od ob h4 h2
        · exact .inl ⟨rfl, hq', hk⟩

/-- A part behind which one stands stays what it begins with. -/
theorem then_head {q : Int} {i : Bool} {k : Int} {c d u : Co} (hm : meetC (.part q i k c d) u = true) :
    (∃ l t, thenC (.part q i k c d) u = .fail q l k t) ∨ (∃ i' c' d', thenC (.part q i k c d) u = .part q i' k c' d') := by
  cases u with
  | any => rw [then_r]; exact .inr ⟨_, _, _, rfl⟩
  | fail r l f t =>
    rw [then_pf]
    rw [meet_pf] at hm
    split
    · exact .inl ⟨_, _, rfl⟩
    · rename_i h
      have : k = f := by
        rcases hm.2 with h1 | h1
        · rcases Decidable.em (k = f) with h2 | h2
          · exact h2
          · exact absurd ⟨h1, h2⟩ h
        · exact h1
      subst this
      exact .inl ⟨_, _, rfl⟩
  | part r i2 m e g =>
    rw [then_pp]
    split
    · exact .inl ⟨_, _, rfl⟩
    · exact .inr ⟨_, _, _, rfl⟩

structure Laws (s t u : Co) : Prop where
  left : meetC (thenC s t) u = true
  right : meetC s (thenC t u) = true
  assoc : thenC (thenC s t) u = thenC s (thenC t u)

theorem then_laws (n : Nat) : ∀ s t u : Co, s.sz + t.sz + u.sz ≤ n → okC s → okC t → okC u → meetC s t = true → meetC t u = true → Laws s t u := by
  induction n with
  | zero =>
    intro s t u hn hs ht hu h1 h2
    cases s with
    | any => exact ⟨by rw [then_any]; exact h2, by rw [meet_any] at *; exact begins_then h1 h2, by rw [then_any, then_any]⟩
    | fail p l f q => exact ⟨by rw [then_fail]; exact meet_fail _ _ _ _ _, meet_fail _ _ _ _ _, by rw [then_fail, then_fail, then_fail]⟩
    | part p j h a b => simp [Co.sz] at hn
  | succ n ih =>
    intro s t u hn hs ht hu h1 h2
    cases s with
    | any => exact ⟨by rw [then_any]; exact h2, by rw [meet_any] at *; exact begins_then h1 h2, by rw [then_any, then_any]⟩
    | fail p l f q => exact ⟨by rw [then_fail]; exact meet_fail _ _ _ _ _, meet_fail _ _ _ _ _, by rw [then_fail, then_fail, then_fail]⟩
    | part p j h a b =>
      cases t with
      | any =>
        rw [meet_pa] at h1
        rw [meet_any] at h2
        have hm := ends_begins_meet _ (.part p j h a b) u (Nat.le_refl _) hs hu h1 h2
        exact ⟨by rw [then_r]; exact hm, by rw [then_any]; exact hm, by rw [then_r, then_any]⟩
      | fail q l f t =>
        refine ⟨?_, by rw [then_fail]; exact h1, ?_⟩
        · rw [then_pf]; split <;> exact meet_fail _ _ _ _ _
        · rw [then_fail, then_pf]; split <;> exact then_fail _ _ _ _ _
      | part q i k c d =>
        obtain ⟨_, _, _, _, ha, oa, hb, ob⟩ := id hs
        obtain ⟨_, _, _, _, hc, oc, hd, od⟩ := id ht
        have hth := then_head h2
        rw [meet_pp] at h1
        rcases h1 with ⟨rfl, hq, hk⟩ | ⟨hj, rfl, m0, m1⟩
        · have e1 : thenC (.part p true h a b) (.part q i k c d) = .fail p q h k := by rw [then_pp, if_pos ⟨rfl, hk⟩]
          have hq' : (q != 0) = true := by simpa using hq
          rcases hth with ⟨l, t, e2⟩ | ⟨i', c', d', e2⟩
          · exact ⟨by rw [e1]; exact meet_fail _ _ _ _ _, by rw [e2, meet_pf]; exact ⟨hq'.symm, .inl rfl⟩, by rw [e1, then_fail, e2, then_pf, if_pos ⟨rfl, hk⟩]⟩
          · exact ⟨by rw [e1]; exact meet_fail _ _ _ _ _, by rw [e2, meet_pp]; exact .inl ⟨rfl, hq, hk⟩, by rw [e1, then_fail, e2, then_pp, if_pos ⟨rfl, hk⟩]⟩
        · have e1 : thenC (.part p j h a b) (.part q i h c d) = .part p i h (thenK h 0 a c) (thenK h 1 b d) := by rw [then_pp, if_neg (by simp)]
          cases u with
          | any =>
            rw [meet_pa] at h2
            exact ⟨by rw [e1, meet_pa]; exact h2, by rw [then_r, meet_pp]; exact .inr ⟨hj, rfl, m0, m1⟩, by rw [then_r, then_r]⟩
          | fail r l f t =>
            rw [meet_pf] at h2
            refine ⟨by rw [e1, meet_pf]; exact h2, ?_, ?_⟩
            · rcases hth with ⟨l, t, e2⟩ | ⟨i', c', d', e2⟩
              · rw [e2, meet_pf]; exact ⟨hj, .inr rfl⟩
              · exfalso
                rw [then_pf] at e2
                split at e2 <;> cases e2
            · rw [e1, then_pf, then_pf]
              by_cases hc2 : i = true ∧ h ≠ f
              · rw [if_pos hc2, if_pos hc2, then_pf, if_neg (by simp)]
              · have hf : h = f := by
                  rcases h2.2 with h3 | h3
                  · rcases Decidable.em (h = f) with h4 | h4
                    · exact h4
                    · exact absurd ⟨h3, h4⟩ hc2
                  · exact h3
                rw [if_neg hc2, if_neg hc2, then_pf, if_neg (by rw [hf]; simp)]
          | part r i2 m e g =>
            obtain ⟨_, _, _, _, he, oe, hg, og⟩ := id hu
            rw [meet_pp] at h2
            rcases h2 with ⟨rfl, hr, hm⟩ | ⟨hi, rfl, n0, n1⟩
            · refine ⟨by rw [e1, meet_pp]; exact .inl ⟨rfl, hr, hm⟩, ?_, ?_⟩
              · rw [then_pp, if_pos ⟨rfl, hm⟩, meet_pf]; exact ⟨hj, .inr rfl⟩
              · rw [e1, then_pp, if_pos ⟨rfl, hm⟩, then_pp, if_pos ⟨rfl, hm⟩, then_pf, if_neg (by simp)]
            · have e2 : thenC (.part q i h c d) (.part r i2 h e g) = .part q i2 h (thenK h 0 c e) (thenK h 1 d g) := by rw [then_pp, if_neg (by simp)]
              simp only [Co.sz] at hn
              have key : ∀ (x : Nat) (a c e : Co), a.sz + c.sz + e.sz ≤ n → okC a → okC c → okC e → meetK h x a c = true → meetK h x c e = true →
                  meetK h x (thenK h x a c) e = true ∧ meetK h x a (thenK h x c e) = true ∧ thenK h x (thenK h x a c) e = thenK h x a (thenK h x c e) := by
                intro x a c e hl oa oc oe k1 k2
                unfold meetK thenK at *
                cases hT : turnd h x
                · rw [hT] at k1 k2
                  have L := ih a c e (by omega) oa oc oe k1 k2
                  exact ⟨L.left, L.right, L.assoc⟩
                · rw [hT] at k1 k2
                  have L := ih e c a (by omega) oe oc oa k2 k1
                  exact ⟨L.right, L.left, L.assoc.symm⟩
              obtain ⟨k1, k2, k3⟩ := key 0 a c e (by omega) oa oc oe m0 n0
              obtain ⟨k4, k5, k6⟩ := key 1 b d g (by omega) ob od og m1 n1
              exact ⟨by rw [e1, meet_pp]; exact .inr ⟨hi, rfl, k1, k4⟩, by rw [e2, meet_pp]; exact .inr ⟨hj, rfl, k2, k5⟩, by rw [e1, e2, then_pp, then_pp, if_neg (by simp), if_neg (by simp), k3, k6]⟩

theorem then_ok (n : Nat) : ∀ s t : Co, s.sz + t.sz ≤ n → okC s → okC t → meetC s t = true → okC (thenC s t) := by
  induction n with
  | zero =>
    intro s t hn hs ht hm
    cases s with
    | any => rw [then_any]; exact ht
    | fail p l f q => rw [then_fail]; exact hs
    | part p j h a b => simp [Co.sz] at hn
  | succ n ih =>
    intro s t hn hs ht hm
    cases s with
    | any => rw [then_any]; exact ht
    | fail p l f q => rw [then_fail]; exact hs
    | part p j h a b =>
      obtain ⟨hp, ho, hn0, hn1, ha, oa, hb, ob⟩ := id hs
      cases t with
      | any => rw [then_r]; exact hs
      | fail q l f t =>
        rw [meet_pf] at hm
        rw [then_pf]
        obtain ⟨g1, g2, g3, g4, g5⟩ := ht
        split
        · rename_i hc
          have hq : q ≠ 0 := by
            have := hm.1; rw [hc.1] at this; simpa using this.symm
          exact ⟨hp, g1.resolve_left hq, ho, g3, fun e => hc.2 e.symm⟩
        · exact ⟨hp, g2, g3, g4, g5⟩
      | part q i k c d =>
        rw [meet_pp] at hm
        rw [then_pp]
        obtain ⟨tp, to, tn0, tn1, hc, oc, hd, od⟩ := id ht
        rcases hm with ⟨rfl, hq, hk⟩ | ⟨hj, rfl, m0, m1⟩
        · rw [if_pos ⟨rfl, hk⟩]
          exact ⟨hp, tp.resolve_left hq, ho, to, fun e => hk e.symm⟩
        · rw [if_neg (by simp)]
          simp only [Co.sz] at hn
          have key : ∀ (x : Nat) (a c : Co), a.sz + c.sz ≤ n → okC a → okC c → kidOk p j (turnd h x) a → kidOk q i (turnd h x) c → meetK h x a c = true → kidOk p i (turnd h x) (thenK h x a c) ∧ okC (thenK h x a c) := by
            intro x a c hl oa oc ka kc k1
            unfold meetK thenK kidOk at *
            cases hT : turnd h x
            · rw [hT] at k1 ka kc
              exact ⟨⟨fun e => begins_then (ka.1 e) k1, fun e => ends_then (kc.2 e) k1⟩, ih _ _ (by omega) oa oc k1⟩
            · rw [hT] at k1 ka kc
              exact ⟨⟨fun e => ends_then (ka.1 e) k1, fun e => begins_then (kc.2 e) k1⟩, ih _ _ (by omega) oc oa k1⟩
          obtain ⟨r1, r2⟩ := key 0 a c (by omega) oa oc ha hc m0
          obtain ⟨r3, r4⟩ := key 1 b d (by omega) ob od hb hd m1
          refine ⟨hp, ho, fun e => ?_, fun e => ?_, r1, r2, r3, r4⟩
          · rw [hn0 e, tn0 e]; unfold thenK; rw [then_any]; split <;> rfl
          · rw [hn1 e, tn1 e]; unfold thenK; rw [then_any]; split <;> rfl

theorem then_high (n : Nat) : ∀ s t : Co, s.sz + t.sz ≤ n → meetC s t = true → (thenC s t).high ≤ max s.high t.high := by
  induction n with
  | zero =>
    intro s t hn hm
    cases s with
    | any => rw [then_any]; omega
    | fail p l f q => rw [then_fail]; omega
    | part p j h a b => simp [Co.sz] at hn
  | succ n ih =>
    intro s t hn hm
    cases s with
    | any => rw [then_any]; omega
    | fail p l f q => rw [then_fail]; omega
    | part p j h a b =>
      have hp := Co.high_pos (.part p j h a b)
      cases t with
      | any => rw [then_r]; omega
      | fail q l f t => rw [then_pf]; split <;> simp only [Co.high] <;> omega
      | part q i k c d =>
        rw [meet_pp] at hm
        rw [then_pp]
        rcases hm with ⟨rfl, hq, hk⟩ | ⟨hj, rfl, m0, m1⟩
        · rw [if_pos ⟨rfl, hk⟩]; simp only [Co.high] at hp ⊢; omega
        · rw [if_neg (by simp)]
          simp only [Co.sz] at hn
          have key : ∀ (x : Nat) (a c : Co), a.sz + c.sz ≤ n → meetK h x a c = true → (thenK h x a c).high ≤ max a.high c.high := by
            intro x a c hl k1
            unfold meetK thenK at *
            cases hT : turnd h x
            · rw [hT] at k1; exact ih _ _ (by omega) k1
            · rw [hT] at k1; have := ih _ _ (by omega) k1; simp only [if_true]; omega
          have h0 := key 0 a c (by omega) m0
          have h1 := key 1 b d (by omega) m1
          simp only [Co.high]
          split
          · omega
          · split <;> omega

theorem then_len (n : Nat) : ∀ s t : Co, s.sz + t.sz ≤ n → meetC s t = true → (thenC s t).list.length ≤ s.list.length + t.list.length := by
  induction n with
  | zero =>
    intro s t hn hm
    cases s with
    | any => rw [then_any]; omega
    | fail p l f q => rw [then_fail]; omega
    | part p j h a b => simp [Co.sz] at hn
  | succ n ih =>
    intro s t hn hm
    cases s with
    | any => rw [then_any]; omega
    | fail p l f q => rw [then_fail]; omega
    | part p j h a b =>
      have hp := Co.list_pos (.part p j h a b)
      cases t with
      | any => rw [then_r]; omega
      | fail q l f t => rw [then_pf]; split <;> simp only [Co.list, List.length_singleton] <;> omega
      | part q i k c d =>
        rw [meet_pp] at hm
        rw [then_pp]
        rcases hm with ⟨rfl, hq, hk⟩ | ⟨hj, rfl, m0, m1⟩
        · rw [if_pos ⟨rfl, hk⟩]; simp only [Co.list, List.length_singleton] at hp ⊢; omega
        · rw [if_neg (by simp)]
          simp only [Co.sz] at hn
          have key : ∀ (x : Nat) (a c : Co), a.sz + c.sz ≤ n → meetK h x a c = true → (thenK h x a c).list.length ≤ a.list.length + c.list.length := by
            intro x a c hl k1
            unfold meetK thenK at *
            cases hT : turnd h x
            · rw [hT] at k1; exact ih _ _ (by omega) k1
            · rw [hT] at k1; have := ih _ _ (by omega) k1; simp only [if_true]; omega
          have h0 := key 0 a c (by omega) m0
          have h1 := key 1 b d (by omega) m1
          simp only [Co.list, List.length_cons, List.length_append]
          split <;> split <;> (try simp only [List.length_nil]) <;> omega

theorem len_pow (t : Co) : t.list.length ≤ 2 ^ t.high - 1 := by
  induction t with
  | any => simp [Co.list, Co.high]
  | fail p l f q => simp [Co.list, Co.high]
  | part p j h a b iha ihb =>
    have e : ∀ n : Nat, 1 ≤ 2 ^ n := fun n => Nat.one_le_two_pow
    simp only [Co.list, Co.high, List.length_cons, List.length_append]
    rcases opsN_le h with h0 | h0 | h0
    · rw [h0]; simp
    · rw [h0]
      simp only [Nat.le_refl, if_true, if_neg (show ¬ (2 ≤ 1) by omega), if_neg (show ¬ (1 = 0) by omega), List.length_nil, Nat.pow_succ]
      have := e a.high
      omega
    · rw [h0]
      simp only [if_pos (show 1 ≤ 2 by omega), Nat.le_refl, if_true, if_neg (show ¬ (2 = 0) by omega), if_neg (show ¬ (2 = 1) by omega), Nat.pow_succ]
      have ha : 2 ^ a.high ≤ 2 ^ max a.high b.high := Nat.pow_le_pow_right (by omega) (by omega)
      have hb : 2 ^ b.high ≤ 2 ^ max a.high b.high := Nat.pow_le_pow_right (by omega) (by omega)
      have := e a.high
      have := e b.high
      omega

end Go.Proofs.YtjklecncdinabaaGreatDoor.C
