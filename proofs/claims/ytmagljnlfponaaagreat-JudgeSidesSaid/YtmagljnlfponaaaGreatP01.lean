/- Parts of this claim: CkP, ReA, ReB, ReC, Blk. -/
import Derived.StillTailTactics
import Derived.Deep.LoopGhost
import Derived.Laws.EntriesVeiled
import Derived.Below
import Derived.Laws.OwnMore
import Derived.Deep.Draws
import Derived.Laws.Rows
import Derived.Test.YtmagljnlfponaaaGreatP00
set_option linter.unusedVariables false
set_option linter.unusedSimpArgs false
/- CkP -/
namespace Go.Proofs.YtmagljnlfponaaaGreat.K
open Go.Proofs.YtmagljnlfponaaaGreat.T
set_option linter.unusedVariables false
set_option linter.unusedSimpArgs false

/-- A node of a term's list. -/
structure Tn where
  kd : Int
  kids : Int
  n : Int
  s : ByteArray
  t : ByteArray
  u : ByteArray
  ln : Int
  cl : Int
/-- Trees, one beside the other: the first one's node, its kids; the others. -/
inductive Tf where
  | nil
  | cons (n : Tn) (k r : Tf)
/-- What is found, or the error and where. -/
inductive Rs (α : Type) where
  | ok (a : α)
  | bad (e : Int) (x : Nat)

/-- How many kids a kind has; -1: any number; -2: it is none. -/
def arK (k : Int) : Int :=
  if k = 1 ∨ k = 2 ∨ k = 3 ∨ k = 4 then 0
  else if k = 5 ∨ k = 6 ∨ k = 16 ∨ k = 17 ∨ k = 19 ∨ k = 20 ∨ k = 22 ∨ k = 23 ∨ k = 24 ∨ k = 26 ∨ k = 27 ∨ k = 30 then 1
  else if k = 7 ∨ k = 8 ∨ k = 10 ∨ k = 11 ∨ k = 12 ∨ k = 13 ∨ k = 14 ∨ k = 15 ∨ k = 18 ∨ k = 25 ∨ k = 28 then 2
  else if k = 9 then 3
  else if k = 21 then -1
  else -2
def goodN (n : Tn) : Bool := arK n.kd != -2 && decide (0 ≤ n.kids) && (arK n.kd == -1 || arK n.kd == n.kids)
theorem goodN_iff {n : Tn} : goodN n = true ↔ arK n.kd ≠ -2 ∧ 0 ≤ n.kids ∧ (arK n.kd = -1 ∨ arK n.kd = n.kids) := by unfold goodN; simp [and_assoc]

namespace Tf
def list : Tf → List Tn
  | nil => []
  | cons n k r => n :: (k.list ++ r.list)
def len : Tf → Nat
  | nil => 0
  | cons _ _ r => r.len + 1
def sz : Tf → Nat
  | nil => 0
  | cons _ k r => 1 + k.sz + r.sz
def wf : Tf → Prop
  | nil => True
  | cons n k r => goodN n = true ∧ n.kids = k.len ∧ k.wf ∧ r.wf
def high : Tf → Nat
  | nil => 0
  | cons _ k r => max (k.high + 1) r.high
/-- Of every tree of the row. -/
def All (p : Tn → Tf → Prop) : Tf → Prop
  | nil => True
  | cons n k r => p n k ∧ r.All p
theorem all_of {p : Tn → Tf → Prop} (h : ∀ n k, k.All p → p n k) : ∀ f : Tf, f.All p
  | nil => trivial
  | cons n k r => ⟨h n k (all_of h k), all_of h r⟩
theorem list_len (f : Tf) : f.list.length = f.sz := by
  induction f with
  | nil => rfl
  | cons n k r ihk ihr => simp only [list, sz, List.length_cons, List.length_append, ihk, ihr]; omega
/-- The trees behind the first m. -/
def from_ : Tf → Nat → Tf
  | f, 0 => f
  | nil, _ + 1 => nil
  | cons _ _ r, m + 1 => r.from_ m
end Tf

/-! ### The shape -/
def loopQ (f : List Tn → Nat → Rs (List Tn × Nat)) : Nat → List Tn → Nat → Rs (List Tn × Nat)
  | 0, l, a => .ok (l, a)
  | k + 1, l, a => match f l a with
    | .bad e x => .bad e x
    | .ok (l', a') => loopQ f k l' a'
/-- d: so many may still stand one in the other. -/
def shq : Nat → List Tn → Nat → Rs (List Tn × Nat)
  | _, [], a => .bad 18 a
  | 0, n :: _, a => if goodN n = true then .bad 16 a else .bad 18 a
  | d + 1, n :: r, a => if goodN n = true then loopQ (shq d) n.kids.toNat r (a + 1) else .bad 18 a

theorem loopQ_tree {f : List Tn → Nat → Rs (List Tn × Nat)} {d : Nat} (hf : ∀ l a l' a', f l a = .ok (l', a') → ∃ n k, Tf.wf (.cons n k .nil) ∧ k.high + 1 ≤ d ∧ l = n :: (k.list ++ l') ∧ a' = a + 1 + k.sz) :
    ∀ (m : Nat) (l : List Tn) (a : Nat) (l' : List Tn) (a' : Nat), loopQ f m l a = .ok (l', a') → ∃ ts : Tf, ts.len = m ∧ ts.wf ∧ ts.high ≤ d ∧ l = ts.list ++ l' ∧ a' = a + ts.sz
  | 0, l, a, l', a', h => by
    simp only [loopQ, Rs.ok.injEq, Prod.mk.injEq] at h
    obtain ⟨rfl, rfl⟩ := h
    exact ⟨.nil, rfl, trivial, Nat.zero_le _, rfl, rfl⟩
  | m + 1, l, a, l', a', h => by
    simp only [loopQ] at h
    rcases hr : f l a with ⟨l1, a1⟩ | ⟨e, x⟩
    · rw [hr] at h
      simp only at h
      obtain ⟨n, k, hw, hh, rfl, rfl⟩ := hf _ _ _ _ hr
      obtain ⟨ts, h1, h2, h3, rfl, rfl⟩ := loopQ_tree hf m _ _ _ _ h
      exact ⟨.cons n k ts, by simp [Tf.len, h1], ⟨hw.1, hw.2.1, hw.2.2.1, h2⟩, by simp only [Tf.high]; omega, by simp [Tf.list], by simp only [Tf.sz]; omega⟩
    · rw [hr] at h; cases h
theorem shq_tree : ∀ (d : Nat) (l : List Tn) (a : Nat) (l' : List Tn) (a' : Nat), shq d l a = .ok (l', a') → ∃ n k, Tf.wf (.cons n k .nil) ∧ k.high + 1 ≤ d ∧ l = n :: (k.list ++ l') ∧ a' = a + 1 + k.sz
  | 0, [], a, l', a', h => by simp [shq] at h
  | 0, n :: r, a, l', a', h => by simp only [shq] at h; split at h <;> cases h
  | d + 1, [], a, l', a', h => by simp [shq] at h
  | d + 1, n :: r, a, l', a', h => by
    simp only [shq] at h
    split at h
    · rename_i hg
      obtain ⟨ts, h1, h2, h3, rfl, rfl⟩ := loopQ_tree (fun l a l' a' => shq_tree d l a l' a') _ _ _ _ _ h
      have hk := (goodN_iff.1 hg).2.1
      exact ⟨n, ts, ⟨hg, by omega, h2, trivial⟩, by omega, rfl, by omega⟩
    · cases h

theorem loopQ_of {f : List Tn → Nat → Rs (List Tn × Nat)} {d : Nat} (hf : ∀ n k (r : List Tn) a, Tf.wf (.cons n k .nil) → k.high + 1 ≤ d → f (n :: (k.list ++ r)) a = .ok (r, a + 1 + k.sz)) :
    ∀ (ts : Tf) (r : List Tn) (a : Nat), ts.wf → ts.high ≤ d → loopQ f ts.len (ts.list ++ r) a = .ok (r, a + ts.sz)
  | .nil, r, a, _, _ => rfl
  | .cons n k ts, r, a, hw, hh => by
    simp only [Tf.high] at hh
    simp only [Tf.list, Tf.len, loopQ, List.cons_append, List.append_assoc]
    rw [hf n k _ a ⟨hw.1, hw.2.1, hw.2.2.1, trivial⟩ (by omega)]
    simp only
    rw [loopQ_of hf ts r _ hw.2.2.2 (by omega)]
    simp only [Tf.sz]
    congr 2; omega
theorem shq_of : ∀ (d : Nat) (n : Tn) (k : Tf) (r : List Tn) (a : Nat), Tf.wf (.cons n k .nil) → k.high + 1 ≤ d → shq d (n :: (k.list ++ r)) a = .ok (r, a + 1 + k.sz)
  | 0, n, k, r, a, hw, hh => by omega
  | d + 1, n, k, r, a, hw, hh => by
    simp only [shq]
    rw [if_pos hw.1]
    have hk := (goodN_iff.1 hw.1).2.1
    have e : n.kids.toNat = k.len := by have := hw.2.1; omega
    rw [e, loopQ_of (fun n k r a => shq_of d n k r a) k r (a + 1) hw.2.2.1 (by omega)]

/-! ### The types -/
/-- The type that a text is, if it is one. -/
noncomputable def ty (s : ByteArray) : Ty := if h : isB s = true then Classical.choose (isB_iff.1 h) else .leaf 63
theorem ty_spec {s : ByteArray} (h : isB s = true) : (ty s).ok ∧ s = str (ty s) ∧ (ty s).code.length ≤ 64 := by
  unfold ty
  rw [dif_pos h]
  exact Classical.choose_spec (isB_iff.1 h)
theorem str_inj {a b : Ty} (ha : a.ok) (hb : b.ok) (h : str a = str b) : a = b := by
  refine code_inj ha hb ?_
  have := congrArg (fun x : ByteArray => x.data.toList) h
  simpa [str, bs] using this
theorem ty_str {t : Ty} (h : t.ok) (h64 : t.code.length ≤ 64) : ty (str t) = t := by
  have hs := ty_spec (isB_str h h64)
  exact (str_inj h hs.1 hs.2.1).symm

noncomputable def wordsE (n : Tn) (binders : Nat) : Int :=
  if n.kd = 2 then (if n.s.size ≤ 64 then 0 else 10)
  else if n.kd = 3 then (if n.n = 0 ∨ n.n = 1 then 0 else 13)
  else if n.kd = 4 then (if 0 ≤ n.n ∧ n.n < binders then 0 else 22)
  else if n.kd = 21 then (if isB n.t = true then 0 else 20)
  else if n.kd = 5 ∨ n.kd = 6 then (if isB n.t = true ∧ isB n.u = true then 0 else 20)
  else if n.kd = 30 then (if isB n.t = true ∧ isB n.u = true then (if allT askC (ty n.t) (ty n.u) = true then (if 1 ≤ n.n ∧ n.n ≤ 2147483647 then 0 else 13) else 23) else 20)
  else 0

def tI : Ty := .leaf 105
def tB : Ty := .leaf 98
def tT : Ty := .leaf 116
open Classical in
noncomputable def want {α : Type} (p : Prop) (a : Nat) (r : Rs α) : Rs α := if p then r else .bad 23 a
open Classical in
noncomputable def made (t : Ty) (a : Nat) : Rs Ty := if t.code.length ≤ 64 then .ok t else .bad 21 a
/-- A node's type by those of its kids. -/
noncomputable def ruleE (n : Tn) (ts : List Ty) (a : Nat) : Rs Ty :=
  let k := n.kd
  let x := ts.getD 0 tI
  let y := ts.getD 1 tI
  if k = 1 then .ok tI else if k = 2 then .ok tT else if k = 3 then .ok tB
  else if k = 30 then want (x = ty n.t) a (.ok (ty n.u))
  else if k = 7 then want (x.head = 62 ∧ x.kids.getD 0 tI = y) a (.ok (x.kids.getD 1 tI))
  else if k = 9 then want (x = tB ∧ y = ts.getD 2 tI) a (.ok y)
  else if k = 10 ∨ k = 11 ∨ k = 12 ∨ k = 16 then want (∀ t ∈ ts, t = tI) a (.ok tI)
  else if k = 14 ∨ k = 15 then want (∀ t ∈ ts, t = tI) a (.ok tB)
  else if k = 13 then want (∀ t ∈ ts, t = tT) a (.ok tT)
  else if k = 17 then want (∀ t ∈ ts, t = tT) a (.ok tI)
  else if k = 18 then made (.bin 44 x y) a
  else if k = 19 ∨ k = 20 then want (x.head = 44) a (.ok (x.kids.getD (k - 19).toNat tI))
  else if k = 21 then want (∀ t ∈ ts, t = ty n.t) a (made (.un 108 (ty n.t)) a)
  else if k = 22 then want (x.head = 108) a (.ok (x.kids.getD 0 tI))
  else if k = 23 then want (x.head = 108) a (.ok x)
  else if k = 24 then want (x.head = 108) a (.ok tB)
  else if k = 25 then want (y = .un 108 x) a (.ok y)
  else if k = 26 then made (.un 120 x) a
  else if k = 27 then want (x.head = 120) a (.ok (x.kids.getD 0 tI))
  else want (x = .un 120 y) a (.ok y)

def Rs.then {α β : Type} : Rs α → (α → Rs β) → Rs β
  | .bad e x, _ => .bad e x
  | .ok a, f => f a
theorem Rs.then_ok {α β : Type} (a : α) (f : α → Rs β) : (Rs.ok a).then f = f a := rfl
theorem Rs.then_bad {α β : Type} (e : Int) (x : Nat) (f : α → Rs β) : (Rs.bad e x : Rs α).then f = .bad e x := rfl

/-- The types of trees one beside the other; m: the first one's type is a binder of the next one. -/
noncomputable def tyF : Tf → Bool → List Ty → Nat → Rs (List Ty)
  | .nil, _, _, _ => .ok []
  | .cons n k r, m, env, a =>
    (if wordsE n env.length ≠ 0 then .bad (wordsE n env.length) a
     else if n.kd = 4 then .ok (env.getD n.n.toNat tI)
     else if n.kd = 5 then (made (.bin 62 (ty n.t) (ty n.u)) a).then fun f => (tyF k false (ty n.t :: env) (a + 1)).then fun ts => want (ts.getD 0 tI = ty n.u) a (.ok f)
     else if n.kd = 6 then (made (.bin 62 (ty n.t) (ty n.u)) a).then fun f => (tyF k false (ty n.t :: f :: env) (a + 1)).then fun ts => want (ts.getD 0 tI = ty n.u) a (.ok f)
     else if n.kd = 8 then (tyF k true env (a + 1)).then fun ts => .ok (ts.getD 1 tI)
     else (tyF k false env (a + 1)).then fun ts => ruleE n ts a).then fun t => (tyF r false (if m then t :: env else env) (a + 1 + k.sz)).then fun ts => .ok (t :: ts)
/-- The type of one tree. -/
noncomputable def tyT (n : Tn) (k : Tf) (env : List Ty) (a : Nat) : Rs Ty :=
  if wordsE n env.length ≠ 0 then .bad (wordsE n env.length) a
  else if n.kd = 4 then .ok (env.getD n.n.toNat tI)
  else if n.kd = 5 then (made (.bin 62 (ty n.t) (ty n.u)) a).then fun f => (tyF k false (ty n.t :: env) (a + 1)).then fun ts => want (ts.getD 0 tI = ty n.u) a (.ok f)
  else if n.kd = 6 then (made (.bin 62 (ty n.t) (ty n.u)) a).then fun f => (tyF k false (ty n.t :: f :: env) (a + 1)).then fun ts => want (ts.getD 0 tI = ty n.u) a (.ok f)
  else if n.kd = 8 then (tyF k true env (a + 1)).then fun ts => .ok (ts.getD 1 tI)
  else (tyF k false env (a + 1)).then fun ts => ruleE n ts a
theorem tyF_cons (n : Tn) (k r : Tf) (m : Bool) (env : List Ty) (a : Nat) :
    tyF (.cons n k r) m env a = (tyT n k env a).then fun t => (tyF r false (if m then t :: env else env) (a + 1 + k.sz)).then fun ts => .ok (t :: ts) := by
  rw [tyF]; rfl

/-- A type, not too long. -/
def okT (t : Ty) : Prop := t.ok ∧ t.code.length ≤ 64
theorem okT_ty {s : ByteArray} (h : isB s = true) : okT (ty s) := ⟨(ty_spec h).1, (ty_spec h).2.2⟩
theorem okT_kid {t k : Ty} (h : okT t) (hk : k ∈ t.kids) : okT k := ⟨Ty.kids_ok h.1 hk, by have := Ty.kid_code hk; have := h.2; omega⟩
theorem okT_leaf (c : UInt8) (h : arB c = 0) : okT (.leaf c) := ⟨h, by simp [Ty.code]⟩
theorem okT_I : okT tI := okT_leaf _ (by decide)
theorem okT_B : okT tB := okT_leaf _ (by decide)
theorem okT_T : okT tT := okT_leaf _ (by decide)
theorem okT_getD {l : List Ty} (h : ∀ t ∈ l, okT t) (i : Nat) : okT (l.getD i tI) := by
  rw [List.getD_eq_getElem?_getD]
  rcases hi : l[i]? with _ | t
  · exact okT_I
  · exact h t (List.mem_of_getElem? hi)
theorem okT_kids {t : Ty} (h : okT t) (i : Nat) : okT (t.kids.getD i tI) := okT_getD (fun k hk => okT_kid h hk) i

theorem made_ok {t : Ty} {a : Nat} {r : Ty} (h : made t a = .ok r) : r = t ∧ t.code.length ≤ 64 := by
  unfold made at h
  split at h
  · rename_i h1; injection h with h; exact ⟨h.symm, h1⟩
  · cases h
theorem want_ok {α : Type} {p : Prop} {a : Nat} {r : Rs α} {x : α} (h : want p a r = .ok x) : p ∧ r = .ok x := by
  unfold want at h
  split at h
  · rename_i h1; exact ⟨h1, h⟩
  · cases h
theorem Rs.of_then {α β : Type} {r : Rs α} {f : α → Rs β} {b : β} (h : r.then f = .ok b) : ∃ a, r = .ok a ∧ f a = .ok b := by
  cases r with
  | ok a => exact ⟨a, rfl, h⟩
  | bad e x => cases h

theorem ite_ok {α : Type} {c : Prop} [Decidable c] {x y : Rs α} {t : α} (h : (if c then x else y) = .ok t) : (c ∧ x = .ok t) ∨ (¬ c ∧ y = .ok t) := by
  by_cases hc : c
  · rw [if_pos hc] at h; exact .inl ⟨hc, h⟩
  · rw [if_neg hc] at h; exact .inr ⟨hc, h⟩
/-- A list's nodes are all types where words say so; a rule's answer is a type. -/
theorem ruleE_ok {n : Tn} {ts : List Ty} {a : Nat} {t : Ty} {b : Nat} (hw : wordsE n b = 0) (hts : ∀ t ∈ ts, okT t) (h : ruleE n ts a = .ok t) : okT t := by
  have x := okT_getD hts 0
  have y := okT_getD hts 1
  unfold ruleE at h
  simp only at h
  have ins : ∀ {u : Ty}, Rs.ok u = Rs.ok t → u = t := fun h => by injection h
  rcases ite_ok h with ⟨hk, h⟩ | ⟨_, h⟩
  · rw [← ins h]; exact okT_I
  rcases ite_ok h with ⟨hk, h⟩ | ⟨_, h⟩
  · rw [← ins h]; exact okT_T
  rcases ite_ok h with ⟨hk, h⟩ | ⟨_, h⟩
  · rw [← ins h]; exact okT_B
  rcases ite_ok h with ⟨hk, h⟩ | ⟨_, h⟩
  · skip
    rw [← ins (want_ok h).2]
    unfold wordsE at hw
    rw [hk] at hw
    simp only [show ¬ ((30 : Int) = 2) by decide, show ¬ ((30 : Int) = 3) by decide, show ¬ ((30 : Int) = 4) by decide, show ¬ ((30 : Int) = 21) by decide, show ¬ ((30 : Int) = 5 ∨ (30 : Int) = 6) by decide, if_false, if_true] at hw
    split at hw
    · rename_i hb; exact okT_ty hb.2
    · cases hw
  rcases ite_ok h with ⟨hk, h⟩ | ⟨_, h⟩
  · rw [← ins (want_ok h).2]; exact okT_kids x 1
  rcases ite_ok h with ⟨hk, h⟩ | ⟨_, h⟩
  · rw [← ins (want_ok h).2]; exact y
  rcases ite_ok h with ⟨hk, h⟩ | ⟨_, h⟩
  · rw [← ins (want_ok h).2]; exact okT_I
  rcases ite_ok h with ⟨hk, h⟩ | ⟨_, h⟩
  · rw [← ins (want_ok h).2]; exact okT_B
  rcases ite_ok h with ⟨hk, h⟩ | ⟨_, h⟩
  · rw [← ins (want_ok h).2]; exact okT_T
  rcases ite_ok h with ⟨hk, h⟩ | ⟨_, h⟩
  · rw [← ins (want_ok h).2]; exact okT_I
  rcases ite_ok h with ⟨hk, h⟩ | ⟨_, h⟩
  · obtain ⟨rfl, hl⟩ := made_ok h
    exact ⟨⟨by decide, x.1, y.1⟩, hl⟩
  rcases ite_ok h with ⟨hk, h⟩ | ⟨_, h⟩
  · rw [← ins (want_ok h).2]; exact okT_kids x _
  rcases ite_ok h with ⟨hk, h⟩ | ⟨_, h⟩
  · skip
    obtain ⟨rfl, hl⟩ := made_ok (want_ok h).2
    refine ⟨⟨by decide, ?_⟩, hl⟩
    unfold wordsE at hw
    rw [hk] at hw
    simp only [show ¬ ((21 : Int) = 2) by decide, show ¬ ((21 : Int) = 3) by decide, show ¬ ((21 : Int) = 4) by decide, if_false, if_true] at hw
    split at hw
    · rename_i hb; exact (okT_ty hb).1
    · cases hw
  rcases ite_ok h with ⟨hk, h⟩ | ⟨_, h⟩
  · rw [← ins (want_ok h).2]; exact okT_kids x _
  rcases ite_ok h with ⟨hk, h⟩ | ⟨_, h⟩
  · rw [← ins (want_ok h).2]; exact x
  rcases ite_ok h with ⟨hk, h⟩ | ⟨_, h⟩
  · rw [← ins (want_ok h).2]; exact okT_B
  rcases ite_ok h with ⟨hk, h⟩ | ⟨_, h⟩
  · rw [← ins (want_ok h).2]; exact y
  rcases ite_ok h with ⟨hk, h⟩ | ⟨_, h⟩
  · obtain ⟨rfl, hl⟩ := made_ok h
    exact ⟨⟨by decide, x.1⟩, hl⟩
  rcases ite_ok h with ⟨hk, h⟩ | ⟨_, h⟩
  · rw [← ins (want_ok h).2]; exact okT_kids x _
  · rw [← ins (want_ok h).2]; exact y

theorem fnW {n : Tn} {b : Nat} (hk : n.kd = 5 ∨ n.kd = 6) (hw : wordsE n b = 0) : isB n.t = true ∧ isB n.u = true := by
  unfold wordsE at hw
  rw [if_neg (by omega), if_neg (by omega), if_neg (by omega), if_neg (by omega), if_pos hk] at hw
  split at hw
  · rename_i h; exact h
  · cases hw
theorem tyF_ok : ∀ (f : Tf) (m : Bool) (env : List Ty) (a : Nat) (ts : List Ty), (∀ t ∈ env, okT t) → tyF f m env a = .ok ts → ts.length = f.len ∧ ∀ t ∈ ts, okT t
  | .nil, m, env, a, ts, he, h => by
    simp only [tyF] at h
    injection h with h
    subst h
    exact ⟨rfl, fun t ht => by cases ht⟩
  | .cons n k r, m, env, a, ts, he, h => by
    rw [tyF_cons] at h
    obtain ⟨t, h1, h⟩ := Rs.of_then h
    obtain ⟨us, h2, h⟩ := Rs.of_then h
    injection h with h
    subst h
    have ht : okT t := by
      unfold tyT at h1
      split at h1
      · cases h1
      rename_i hw
      have hw := Decidable.of_not_not hw
      split at h1
      · injection h1 with h1; rw [← h1]; exact okT_getD he _
      split at h1
      · rename_i hk
        obtain ⟨f, hf, h1⟩ := Rs.of_then h1
        obtain ⟨vs, _, h1⟩ := Rs.of_then h1
        obtain ⟨rfl, hl⟩ := made_ok hf
        have := (want_ok h1).2
        injection this with this
        rw [← this]
        have hb := fnW (.inl hk) hw
        exact ⟨⟨by decide, (okT_ty hb.1).1, (okT_ty hb.2).1⟩, hl⟩
      split at h1
      · rename_i hk
        obtain ⟨f, hf, h1⟩ := Rs.of_then h1
        obtain ⟨vs, _, h1⟩ := Rs.of_then h1
        obtain ⟨rfl, hl⟩ := made_ok hf
        have := (want_ok h1).2
        injection this with this
        rw [← this]
        have hb := fnW (.inr hk) hw
        exact ⟨⟨by decide, (okT_ty hb.1).1, (okT_ty hb.2).1⟩, hl⟩
      split at h1
      · obtain ⟨vs, hv, h1⟩ := Rs.of_then h1
        injection h1 with h1
        rw [← h1]
        exact okT_getD (tyF_ok k true env (a + 1) vs he hv).2 1
      · obtain ⟨vs, hv, h1⟩ := Rs.of_then h1
        exact ruleE_ok hw (tyF_ok k false env (a + 1) vs he hv).2 h1
    have hr := tyF_ok r false (if m then t :: env else env) (a + 1 + k.sz) us (fun x hx => by
      cases m
      · exact he x hx
      · rcases List.mem_cons.1 hx with rfl | hx
        · exact ht
        · exact he x hx) h2
    exact ⟨by simp [Tf.len, hr.1], fun x hx => by
      rcases List.mem_cons.1 hx with rfl | hx
      · exact ht
      · exact hr.2 x hx⟩
theorem tyT_ok {n : Tn} {k : Tf} {env : List Ty} {a : Nat} {t : Ty} (he : ∀ t ∈ env, okT t) (h : tyT n k env a = .ok t) : okT t := by
  have := tyF_ok (.cons n k .nil) false env a [t] he (by rw [tyF_cons, h]; rfl)
  exact this.2 t (by simp)

/-- A whole term's tree: it is told by its list. -/
theorem tree_one {n n' : Tn} {k k' : Tf} (hw : Tf.wf (.cons n k .nil)) (hw' : Tf.wf (.cons n' k' .nil)) {r r' : List Tn} (h : n :: (k.list ++ r) = n' :: (k'.list ++ r')) : n = n' ∧ k = k' ∧ r = r' := by
  have key : ∀ (f g : Tf) (r r' : List Tn), f.wf → g.wf → f.len = g.len → f.list ++ r = g.list ++ r' → f = g ∧ r = r' := by
    intro f
    induction f with
    | nil =>
      intro g r r' _ _ hl h
      cases g with
      | nil => exact ⟨rfl, h⟩
      | cons n k s => simp [Tf.len] at hl
    | cons n k s ihk ihs =>
      intro g r r' hw hw' hl h
      cases g with
      | nil => simp [Tf.len] at hl
      | cons n' k' s' =>
        simp only [Tf.list, List.cons_append, List.append_assoc, List.cons.injEq] at h
        obtain ⟨rfl, h⟩ := h
        obtain ⟨e1, h2⟩ := ihk k' _ _ hw.2.2.1 hw'.2.2.1 (by have := hw.2.1; have := hw'.2.1; omega) h
        simp only [Tf.len] at hl
        obtain ⟨e2, h3⟩ := ihs s' _ _ hw.2.2.2 hw'.2.2.2 (by omega) h2
        subst e1 e2
        exact ⟨rfl, h3⟩
  have := key (.cons n k .nil) (.cons n' k' .nil) r r' hw hw' rfl (by simpa [Tf.list] using h)
  obtain ⟨h1, h2⟩ := this
  injection h1 with h1 h3 _
  exact ⟨h1, h3, h2⟩

open Classical in
/-- The tree that a list is, if it is one. -/
noncomputable def treeN (l : List Tn) : Tn × Tf := if h : ∃ q : Tn × Tf, Tf.wf (.cons q.1 q.2 .nil) ∧ l = q.1 :: (q.2.list ++ []) then Classical.choose h else (⟨0, 0, 0, ⟨#[]⟩, ⟨#[]⟩, ⟨#[]⟩, 0, 0⟩, .nil)
theorem treeN_eq {n : Tn} {k : Tf} (hw : Tf.wf (.cons n k .nil)) : treeN (n :: k.list) = (n, k) := by
  have h : ∃ q : Tn × Tf, Tf.wf (.cons q.1 q.2 .nil) ∧ n :: k.list = q.1 :: (q.2.list ++ []) := ⟨(n, k), hw, by simp⟩
  unfold treeN
  rw [dif_pos h]
  have hs := Classical.choose_spec h
  obtain ⟨h1, h2, _⟩ := tree_one hs.1 hw (r := []) (r' := []) (by rw [← hs.2]; simp)
  exact Prod.ext h1 h2

/-- Check: the type, or the error and the node. -/
noncomputable def chk (l : List Tn) : Rs Ty :=
  if 16384 < l.length then .bad 17 0
  else (shq 1024 l 0).then fun p => if p.2 = l.length then tyT (treeN l).1 (treeN l).2 [] 0 else .bad 18 p.2
theorem chk_ok {l : List Tn} {t : Ty} (h : chk l = .ok t) : l.length ≤ 16384 ∧ ∃ n k, Tf.wf (.cons n k .nil) ∧ k.high + 1 ≤ 1024 ∧ l = n :: k.list ∧ tyT n k [] 0 = .ok t ∧ okT t := by
  unfold chk at h
  split at h
  · cases h
  rename_i hl
  obtain ⟨p, h1, h2⟩ := Rs.of_then h
  split at h2
  · rename_i hp
    obtain ⟨r, a⟩ := p
    obtain ⟨n, k, hw, hh, rfl, rfl⟩ := shq_tree _ _ _ _ _ h1
    simp only [List.length_cons, List.length_append, Tf.list_len] at hp
    obtain rfl : r = [] := List.eq_nil_of_length_eq_zero (by omega)
    rw [List.append_nil] at h2 ⊢
    rw [treeN_eq hw] at h2
    exact ⟨by simpa using hl, n, k, hw, hh, rfl, h2, tyT_ok (fun t ht => by cases ht) h2⟩
  · cases h2
end Go.Proofs.YtmagljnlfponaaaGreat.K

/- ReA -/
namespace Go.Proofs.YtmagljnlfponaaaGreat.T
open Go.RowKit Go.Proofs.YtmagljnlfponaaaGreat.B
set_option linter.unusedSimpArgs false
set_option linter.unusedVariables false

theorem isRel_any (s : ByteArray) (w : World) (hs : s.size ≤ 4611686018427387904) : Calls Tryz.prog 110 #[.string s] w fun e w' => e = .returned (.bool (isB s)) ∧ w = w' := by
  have hc := check_any s w hs
  unfold isB
  generalize checkL s.data.toList = R at *
  obtain ⟨a, b⟩ := R
  simp only at hc ⊢
  go_enter Tryz.func110, Tryz.ntmps110
  go_wp2_with (go_at_call 94; refine hc.mono ?_; rintro e w' ⟨rfl, rfl⟩)
  go_ret
  exact ⟨retV (congrArg Value.bool (by rw [Bool.eq_iff_iff]; simp)), rfl⟩
end Go.Proofs.YtmagljnlfponaaaGreat.T

/- ReB -/
namespace Go.Proofs.YtmagljnlfponaaaGreat.T
open Go.RowKit Go.Proofs.YtmagljnlfponaaaGreat.B
set_option linter.unusedSimpArgs false
set_option linter.unusedVariables false

set_option maxRecDepth 100000 in
theorem walk_any (ask : Ty → Ty → Int) (hA : Asks ask)
    (hask : ∀ S T W, S.ok → T.ok → Calls Tryz.prog 104 #[.string (str S), .string (str T)] W fun e w' => e = .returned (.int .i64 (ask S T)) ∧ ∃ n, w' = W.drewN n)
    (b5 b7 : Nat) (fuel : Nat) : ∀ (S T : Ty) (w : World) (hf : S.code.length ≤ fuel) (hS : S.ok) (hT : T.ok) (hS64 : S.code.length ≤ 64) (hT64 : T.code.length ≤ 64) (h5 : b5 < w.heap.size) (h7 : b7 < w.heap.size)
    (c5 : w.cell? ⟨b5, 0, none⟩ = some (.func (.func 104) #[] #[])) (c7 : w.cell? ⟨b7, 0, none⟩ = some (.func (.func 109) #[] #[.pointer (some ⟨b5, 0, none⟩), .pointer (some ⟨b7, 0, none⟩)])),
    Calls Tryz.prog 109 #[.string (str S), .string (str T), .pointer (some ⟨b5, 0, none⟩), .pointer (some ⟨b7, 0, none⟩)] w fun e w' => e = .returned (.bool (allT ask S T)) ∧ Below w.heap.size w w' := by
  induction fuel with
  | zero => intro S T w hf; have := S.code_pos; omega
  | succ fuel ih =>
  intro S T w hf hS hT hS64 hT64 h5 h7 c5 c7
  have IH := Lib.hid ih
  clear ih
  have ha := hask S T w hS hT
  obtain ⟨q, hq⟩ : ∃ q, ask S T = q := ⟨_, rfl⟩
  rw [hq] at ha
  have hq0 := hA.lo S T
  have hq1 := hA.hi S T
  have hkl : q < 0 → S.kids.length = T.kids.length := fun h => kids_len hS hT (hA.neg S T (by omega))
  have hres := allT_kids (ask := ask) hS hT hA
  rw [hq] at hq0 hq1 hres
  have hP1 := fun W => Parts_yes S W hS hS64
  have hP2 := fun W => Parts_yes T W hT hT64
  have hk1 : ∀ x ∈ S.kids, x.ok := fun x hx => Ty.kids_ok hS hx
  have hk2 : ∀ x ∈ T.kids, x.ok := fun x hx => Ty.kids_ok hT hx
  have hm1 : ∀ x ∈ S.kids, x.code.length ≤ fuel ∧ x.code.length ≤ 64 := fun x hx => by have := Ty.kid_code hx; omega
  have hm2 : ∀ x ∈ T.kids, x.code.length ≤ 64 := fun x hx => by have := Ty.kid_code hx; omega
  obtain ⟨s, hs⟩ : ∃ s, str S = s := ⟨_, rfl⟩
  obtain ⟨t, ht⟩ : ∃ t, str T = t := ⟨_, rfl⟩
  rw [hs] at ha hP1
  rw [ht] at ha hP2
  rw [hs, ht]
  have HQ := Lib.hid hres
  have HK1 := Lib.hid hk1
  have HK2 := Lib.hid hk2
  have HM1 := Lib.hid hm1
  have HM2 := Lib.hid hm2
  by_cases h0 : 0 ≤ q
  · clear hq hs ht hres hk1 hk2 hm1 hm2 hkl hP1 hP2
    go_enter Tryz.func109, Tryz.ntmps109
    go_wp2_with fail
    go_step3
    go_wp2_with fail
    refine ha.mono ?_
    rintro e w' ⟨rfl, n, rfl⟩
    go_wp2_with fail
    rw [Exit.noGoto_ret]
    go_ret
    exact ⟨by rw [HQ.out, if_pos h0]; rfl, below_drewN (Below.refl _ _) _⟩
  · have hlen := hkl (by omega)
    have HLEN := Lib.hid hlen
    have hall : Hid (allT ask S T = (S.kids.zip T.kids).all fun p => allT ask p.1 p.2) := by show _ = _; rw [hres, if_neg h0]
    clear hq hs ht hres hk1 hk2 hm1 hm2 hkl hlen
    go_enter Tryz.func109, Tryz.ntmps109
    go_wp2_with fail
    go_step3
    go_wp2_with fail
    refine ha.mono ?_
    rintro e w' ⟨rfl, n, rfl⟩
    go_wp2_with fail
    refine (hP1 _).mono ?_
    rintro e w1 ⟨v1, rfl, ho1, hb1⟩
    obtain ⟨A1, cap1, rfl, _, _, hs1⟩ := Sl.of_own ho1
    go_wp2_with fail
    refine (hP2 _).mono ?_
    rintro e w2 ⟨v2, rfl, ho2, hb2⟩
    obtain ⟨A2, cap2, rfl, _, _, hs2⟩ := Sl.of_own ho2
    have hs1' := (hs1.below hb2).more hb2.size
    have hc2 := bl (bl (bdr (b0 (a := w)) n) hb1) hb2
    clear ho1 ho2 hs1 hb1 hb2 ha hP1 hP2
    obtain ⟨K1, hK1⟩ : ∃ K1, S.kids = K1 := ⟨_, rfl⟩
    obtain ⟨K2, hK2⟩ : ∃ K2, T.kids = K2 := ⟨_, rfl⟩
    rw [hK1] at HK1 HM1 HLEN hall hs1'
    rw [hK2] at HK2 HM2 HLEN hall hs2
    rw [hK1, hK2]
    have hK12 : K1.length ≤ 2 := by rw [← hK1]; exact Ty.kids_le S
    clear hK1 hK2
    go_wp2_with fail
    go_step3
    go_wp2_with fail
    go_loopg [8, 11, 26] K1.length (fun g gd _ i wr => ∃ j : Nat, j ≤ K1.length ∧ g = K1.length - j ∧ gd = .bool true ∧ i = .int .i64 j ∧ Below w.heap.size w wr ∧ Below w2.heap.size w2 wr ∧ Hid (∀ m S' T', m < j → K1[m]? = some S' → K2[m]? = some T' → allT ask S' T' = true))
    case atStart => exact ⟨0, by omega, rfl, rfl, rfl, hc2, Below.refl _ _, fun m _ _ h => by omega⟩
    case round =>
      obtain ⟨j, hj, rfl, rfl, rfl, hbr, hb2r, hdone⟩ := hrel
      by_cases hlt : j < K1.length
      · obtain ⟨S', hS'⟩ : ∃ S', K1[j]? = some S' := ⟨_, List.getElem?_eq_getElem hlt⟩
        obtain ⟨T', hT'⟩ : ∃ T', K2[j]? = some T' := ⟨_, List.getElem?_eq_getElem (by rw [← HLEN.out]; exact hlt)⟩
        have hlt2 : j < K2.length := by rw [← HLEN.out]; exact hlt
        obtain ⟨g1, o1, rfl, hg1, hcs1⟩ := hs1'.at_ (by omega)
        obtain ⟨g2, o2, rfl, hg2, hcs2⟩ := hs2.at_ (by omega)
        have e1 : wr.cell? ⟨g1, o1 + j, none⟩ = some (.string (str S')) := (hb2r.cell (p := ⟨g1, o1 + j, none⟩) hg1).trans (hcs1 j _ (by rw [List.getElem?_map, hS']; rfl))
        have e2 : wr.cell? ⟨g2, o2 + j, none⟩ = some (.string (str T')) := (hb2r.cell (p := ⟨g2, o2 + j, none⟩) hg2).trans (hcs2 j _ (by rw [List.getElem?_map, hT']; rfl))
        have e5 : wr.cell? ⟨b5, 0, none⟩ = some (.func (.func 104) #[] #[]) := (hbr.cell (p := ⟨b5, 0, none⟩) h5).trans c5
        have e7 : wr.cell? ⟨b7, 0, none⟩ = some (.func (.func 109) #[] #[.pointer (some ⟨b5, 0, none⟩), .pointer (some ⟨b7, 0, none⟩)]) := (hbr.cell (p := ⟨b7, 0, none⟩) h7).trans c7
        have hm1 := HM1.out S' (List.mem_of_getElem? hS')
        have hm2 := HM2.out T' (List.mem_of_getElem? hT')
        have hz := hbr.size
        have hcall := fun W h5 h7 c5 c7 => IH.out S' T' W hm1.1 (HK1.out S' (List.mem_of_getElem? hS')) (HK2.out T' (List.mem_of_getElem? hT')) hm1.2 hm2 h5 h7 c5 c7
        obtain ⟨r, hr⟩ : ∃ r, allT ask S' T' = r := ⟨_, rfl⟩
        obtain ⟨s', hs'⟩ : ∃ s', str S' = s' := ⟨_, rfl⟩
        obtain ⟨t', ht'⟩ : ∃ t', str T' = t' := ⟨_, rfl⟩
        rw [hs', ht', hr] at hcall
        rw [hs'] at e1
        rw [ht'] at e2
        have HSj := Lib.hid hS'
        have HTj := Lib.hid hT'
        have HR := Lib.hid hr
        have HD := Lib.hid hdone
        clear hS' hT' hr hs' ht' hdone hs1' hs2 hcs1 hcs2 hm1 hm2 c5 c7
        go_wp2_with fail
        go_still_tail 9, (by kernel_rfl)
        change wpList _ _ _ _ _ wr.drew
        go_wp2_with fail
        refine (hcall _ (by simp; omega) (by simp; omega) (by simpa using e5) (by simpa using e7)).mono ?_
        rintro e w3 ⟨rfl, hb3⟩
        have hb3' : Below wr.heap.size wr w3 := ((Below.refl wr.heap.size wr).drew).trans hb3
        cases r
        · go_wp2_with fail
          rw [Exit.noGoto_ret]
          go_ret
          exact ⟨by rw [hall.out, zip_not _ HSj.out HTj.out HR.out]; rfl, bl hbr hb3'⟩
        · go_wp2_with fail
          go_roundg (K1.length - (j + 1))
          case measure => omega
          case rel =>
            refine ⟨j + 1, by omega, rfl, rfl, by go_num, bl hbr hb3', bl hb2r hb3', ?_⟩
            intro m S'' T'' hm h1 h2
            rcases Nat.lt_or_ge m j with h | h
            · exact HD.out m S'' T'' h h1 h2
            · obtain rfl : m = j := by omega
              rw [HSj.out] at h1
              rw [HTj.out] at h2
              cases h1; cases h2
              exact HR.out
      · obtain rfl : j = K1.length := by omega
        go_wp2_with fail
        rw [Exit.noGoto_ret]
        go_ret
        refine ⟨?_, hbr⟩
        rw [hall.out, zip_all HLEN.out _ hdone.out]
        rfl

end Go.Proofs.YtmagljnlfponaaaGreat.T

/- ReC -/
namespace Go.Proofs.YtmagljnlfponaaaGreat.T
open Go.RowKit Go.Proofs.YtmagljnlfponaaaGreat.B
set_option linter.unusedSimpArgs false
set_option linter.unusedVariables false

theorem str_q {t : Ty} (ht : t.ok) : ((str t).toList == [63]) = (t.head == 63) := by
  rw [Lib.toList_data, str, bs_list, Bool.eq_iff_iff]
  simp only [beq_iff_eq]
  constructor
  · intro h
    have := Ty.code_head t
    rw [h] at this
    exact (Option.some.inj this).symm
  · intro h
    rw [head63 ht h]; rfl

theorem byte_neq (a b : UInt8) : ((a.toNat : Int) != (b.toNat : Int)) = (a != b) := by
  rw [Bool.eq_iff_iff]
  simp only [bne_iff_ne, ne_eq, Int.natCast_inj, UInt8.toNat_inj]
theorem byte_eq (a b : UInt8) : ((a.toNat : Int) == (b.toNat : Int)) = (a == b) := by
  rw [Bool.eq_iff_iff]
  simp only [beq_iff_eq, Int.natCast_inj, UInt8.toNat_inj]

theorem askC_any (S T : Ty) (w : World) (hS : S.ok) (hT : T.ok) : Calls Tryz.prog 104 #[.string (str S), .string (str T)] w fun e w' => e = .returned (.int .i64 (askC S T)) ∧ ∃ n, w' = w.drewN n := by
  obtain ⟨p1, e1⟩ := str_head S
  obtain ⟨p2, e2⟩ := str_head T
  have q1 := str_q hS
  have q2 := str_q hT
  unfold askC
  generalize S.head = a at *
  generalize T.head = b at *
  generalize str S = s at *
  generalize str T = t at *
  clear hS hT S T
  have hb := byte_neq a b
  by_cases ha : a = 63
  · rw [if_pos (.inl ha)]
    rw [ha] at q1
    have q1' : (s.toList == [63]) = true := q1
    clear e1 e2 q1 q2 hb ha
    go_enter Tryz.func104, Tryz.ntmps104
    go_wp2_with fail
    go_ret
    exact ⟨rfl, 0, rfl⟩
  · have q1' : (s.toList == [63]) = false := by rw [q1]; simpa using ha
    by_cases hb63 : b = 63
    · rw [if_pos (.inr hb63)]
      rw [hb63] at q2
      have q2' : (t.toList == [63]) = true := q2
      clear e1 e2 q1 q2 hb ha hb63
      go_enter Tryz.func104, Tryz.ntmps104
      go_wp2_with fail
      go_ret
      exact ⟨rfl, 0, rfl⟩
    · have q2' : (t.toList == [63]) = false := by rw [q2]; simpa using hb63
      rw [if_neg (by intro h; rcases h with h | h; exact ha h; exact hb63 h)]
      by_cases hab : a = b
      · have hb' : ((a.toNat : Int) != (b.toNat : Int)) = false := by rw [hb]; simpa using hab
        rw [if_pos hab]
        clear q1 q2 hb ha hb63 hab
        go_enter Tryz.func104, Tryz.ntmps104
        go_wp2_with fail
        go_quiet (fail)
        go_wp2_with fail
        go_ret
        exact ⟨rfl, _, rfl⟩
      · have hb' : ((a.toNat : Int) != (b.toNat : Int)) = true := by rw [hb]; simpa using hab
        rw [if_neg hab]
        clear q1 q2 hb ha hb63 hab
        go_enter Tryz.func104, Tryz.ntmps104
        go_wp2_with fail
        go_quiet (fail)
        go_wp2_with fail
        go_ret
        exact ⟨rfl, _, rfl⟩

theorem Cons_no (s t : ByteArray) (w : World) (hs : s.size ≤ 4611686018427387904) (ht : t.size ≤ 4611686018427387904) (h : isB s = false ∨ isB t = false) :
    Calls Tryz.prog 93 #[.string s, .string t] w fun e w' => e = .returned (.bool false) ∧ Below w.heap.size w w' := by
  have h1 := fun W => isRel_any s W hs
  have h2 := fun W => isRel_any t W ht
  have hall : ∀ W, Calls Tryz.prog 103 #[.string s, .string t, .func (.func 104) #[] #[]] W fun e w' => e = .returned (.bool false) ∧ Below W.heap.size W w' := by
    intro W
    by_cases hb : isB s = true
    · rw [hb] at h1 h
      rw [h.resolve_left (by simp)] at h2
      clear h hb
      go_enter Tryz.func103, Tryz.ntmps103
      go_wp2_with fail
      refine (h1 _).mono ?_
      rintro e w' ⟨rfl, rfl⟩
      go_wp2_with fail
      refine (h2 _).mono ?_
      rintro e w' ⟨rfl, rfl⟩
      go_wp2_with fail
      go_ret
      exact ⟨rfl, bal (bal b0 _) _⟩
    · have hb' : isB s = false := by simpa using hb
      rw [hb'] at h1
      clear h hb hb' h2
      go_enter Tryz.func103, Tryz.ntmps103
      go_wp2_with fail
      refine (h1 _).mono ?_
      rintro e w' ⟨rfl, rfl⟩
      go_wp2_with fail
      go_ret
      exact ⟨rfl, bal (bal b0 _) _⟩
  clear h h1 h2
  go_enter Tryz.func93, Tryz.ntmps93
  go_wp2_with (go_at_call 103; refine (hall _).mono ?_; rintro e w1 ⟨rfl, hb⟩)
  go_ret
  exact ⟨rfl, hb⟩

theorem Cons_yes (S T : Ty) (w : World) (hS : S.ok) (hT : T.ok) (hS64 : S.code.length ≤ 64) (hT64 : T.code.length ≤ 64) :
    Calls Tryz.prog 93 #[.string (str S), .string (str T)] w fun e w' => e = .returned (.bool (allT askC S T)) ∧ Below w.heap.size w w' := by
  have h1 := fun W => isRel_any (str S) W (by simp [str]; omega)
  have h2 := fun W => isRel_any (str T) W (by simp [str]; omega)
  rw [isB_str hS hS64] at h1
  rw [isB_str hT hT64] at h2
  have hw := fun b5 b7 W => walk_any askC askC_asks askC_any b5 b7 64 S T W hS64 hS hT hS64 hT64
  generalize allT askC S T = r at *
  generalize str S = s at *
  generalize str T = t at *
  have HW := Lib.hid hw
  clear hw
  have hall : ∀ W, Calls Tryz.prog 103 #[.string s, .string t, .func (.func 104) #[] #[]] W fun e w' => e = .returned (.bool r) ∧ Below W.heap.size W w' := by
    intro W
    go_enter Tryz.func103, Tryz.ntmps103
    go_wp2_with fail
    refine (h1 _).mono ?_
    rintro e w' ⟨rfl, rfl⟩
    go_wp2_with fail
    refine (h2 _).mono ?_
    rintro e w' ⟨rfl, rfl⟩
    go_wp2_with fail
    refine (HW.out _ _ _ (by simp; omega) (by simp) (by simp) (by simp)).mono ?_
    rintro e w1 ⟨rfl, hb⟩
    go_wp2_with fail
    go_ret
    exact ⟨rfl, bl (bal (bal b0 _) _) hb⟩
  clear h1 h2
  go_enter Tryz.func93, Tryz.ntmps93
  go_wp2_with (go_at_call 103; refine (hall _).mono ?_; rintro e w1 ⟨rfl, hb⟩)
  go_ret
  exact ⟨rfl, hb⟩

end Go.Proofs.YtmagljnlfponaaaGreat.T

/- Blk -/
namespace Go.Proofs.YtmagljnlfponaaaGreat.B
open Go.RowKit

/-- Block g is just these cells of element type t, none frozen. -/
def Blk (w : World) (g : Nat) (t : TypeId) (cs : Array Value) : Prop := w.heap[g]? = some (.cells cs t (0, 0))
section
variable {w w' : World} {g : Nat} {t : TypeId} {cs : Array Value}
theorem Blk.lt (h : Blk w g t cs) : g < w.heap.size := by
  rcases Nat.lt_or_ge g w.heap.size with hlt | hge
  · exact hlt
  · unfold Blk at h; rw [Array.getElem?_eq_none hge] at h; cases h
theorem Blk.cell (h : Blk w g t cs) (i : Nat) : w.cell? ⟨g, i, none⟩ = cs[i]? := cell_of_row w g i cs t (0, 0) h
theorem Blk.frozen (h : Blk w g t cs) (i : Nat) : w.frozen? ⟨g, i, none⟩ = false := by
  unfold Blk at h
  simp [World.frozen?, h]
theorem Blk.new (w : World) (t : TypeId) (cs : Array Value) : Blk (w.alloc (.cells cs t)) w.heap.size t cs := heap_alloc_new w _
theorem Blk.drew (h : Blk w g t cs) : Blk w.drew g t cs := h
theorem Blk.drewN (h : Blk w g t cs) (n : Nat) : Blk (w.drewN n) g t cs := h
theorem Blk.alloc (h : Blk w g t cs) (o : Obj) : Blk (w.alloc o) g t cs := (Below.heap_alloc w o g h.lt).trans h
theorem Blk.set_ (h : Blk w g t cs) (i : Nat) (u : Value) : Blk (w.setCell ⟨g, i, none⟩ u) g t (cs.setIfInBounds i u) := by
  unfold Blk at h ⊢
  simp [World.setCell, Array.getElem?_modify, h]
theorem Blk.far (h : Blk w g t cs) {p : Addr} (hp : g ≠ p.block) (u : Value) : Blk (w.setCell p u) g t cs := (Below.heap_setCell w p u g hp).trans h
theorem Blk.below {B : Nat} (h : Blk w g t cs) (hb : Below B w w') (hg : g < B) : Blk w' g t cs := (hb.block g hg).trans h
theorem Blk.grown {row : Option Nat} (h : Blk w g t cs) (hb : w.grownBy w' row) (hg : some g ≠ row) : Blk w' g t cs := (hb.block g h.lt hg).trans h
/-- Its cells and their marks, as the walk reads them. -/
theorem Blk.five {a b c d e : Value} (h : Blk w g t #[a, b, c, d, e]) : (w.cell? ⟨g, 0, none⟩ = some a ∧ w.cell? ⟨g, 1, none⟩ = some b ∧ w.cell? ⟨g, 2, none⟩ = some c ∧ w.cell? ⟨g, 3, none⟩ = some d ∧ w.cell? ⟨g, 4, none⟩ = some e) ∧
    (w.frozen? ⟨g, 0, none⟩ = false ∧ w.frozen? ⟨g, 1, none⟩ = false ∧ w.frozen? ⟨g, 2, none⟩ = false ∧ w.frozen? ⟨g, 3, none⟩ = false ∧ w.frozen? ⟨g, 4, none⟩ = false) :=
  ⟨⟨h.cell 0, h.cell 1, h.cell 2, h.cell 3, h.cell 4⟩, h.frozen 0, h.frozen 1, h.frozen 2, h.frozen 3, h.frozen 4⟩
theorem Blk.four {a b c d : Value} (h : Blk w g t #[a, b, c, d]) : (w.cell? ⟨g, 0, none⟩ = some a ∧ w.cell? ⟨g, 1, none⟩ = some b ∧ w.cell? ⟨g, 2, none⟩ = some c ∧ w.cell? ⟨g, 3, none⟩ = some d) ∧
    (w.frozen? ⟨g, 0, none⟩ = false ∧ w.frozen? ⟨g, 1, none⟩ = false ∧ w.frozen? ⟨g, 2, none⟩ = false ∧ w.frozen? ⟨g, 3, none⟩ = false) :=
  ⟨⟨h.cell 0, h.cell 1, h.cell 2, h.cell 3⟩, h.frozen 0, h.frozen 1, h.frozen 2, h.frozen 3⟩
theorem below_set {B b i : Nat} {a : World} (h : Below B a w) (hB : B ≤ b) (u : Value) : Below B a (w.setCell ⟨b, i, none⟩ u) := h.setCell hB u
end
end Go.Proofs.YtmagljnlfponaaaGreat.B
