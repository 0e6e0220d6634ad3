/- Parts of this claim: CkO, CkQ. -/
import Derived.Defers
import Derived.Recover
import Derived.Test.YtjklecncdinabaaP14
import Derived.Test.YtjklecncdinabaaP15
import Derived.Test.YtjklecncdinabaaP16
import Derived.Test.YtjklecncdinabaaP17
import Derived.Test.YtjklecncdinabaaP18
import Derived.Test.YtjklecncdinabaaP19
import Derived.Test.YtjklecncdinabaaP20
import Derived.Test.YtjklecncdinabaaP21
import Derived.Test.YtjklecncdinabaaP22
import Derived.Test.YtjklecncdinabaaP23
import Derived.Test.YtjklecncdinabaaP24
import Derived.Test.YtjklecncdinabaaP25
import Derived.Test.YtjklecncdinabaaP26
import Derived.Test.YtjklecncdinabaaP27
set_option linter.unusedVariables false
set_option linter.unusedSimpArgs false
/- CkO -/
namespace Go.Proofs.Ytjklecncdinabaa.K
open Go.RowKit Go.Proofs.Ytjklecncdinabaa.B Go.Proofs.Ytjklecncdinabaa.T
set_option linter.unusedVariables false
set_option linter.unusedSimpArgs false

theorem tyT_bad {n : Tn} {k : Tf} {env : List Ty} {a : Nat} (h : wordsE n env.length ≠ 0) : tyT n k env a = .bad (wordsE n env.length) a := by
  unfold tyT; rw [if_pos h]
theorem tyT_var {n : Tn} {k : Tf} {env : List Ty} {a : Nat} (h : wordsE n env.length = 0) (h4 : n.kd = 4) : tyT n k env a = .ok (env.getD n.n.toNat tI) := by
  unfold tyT; rw [if_neg (by simp [h]), if_pos h4]
theorem tyT_5 {n : Tn} {k : Tf} {env : List Ty} {a : Nat} (h : wordsE n env.length = 0) (h5 : n.kd = 5) : tyT n k env a = (made (.bin 62 (ty n.t) (ty n.u)) a).then fun f => (tyF k false (ty n.t :: env) (a + 1)).then fun ts => want (ts.getD 0 tI = ty n.u) a (.ok f) := by
  unfold tyT; rw [if_neg (by simp [h]), if_neg (by omega), if_pos h5]
theorem tyT_6 {n : Tn} {k : Tf} {env : List Ty} {a : Nat} (h : wordsE n env.length = 0) (h6 : n.kd = 6) : tyT n k env a = (made (.bin 62 (ty n.t) (ty n.u)) a).then fun f => (tyF k false (ty n.t :: f :: env) (a + 1)).then fun ts => want (ts.getD 0 tI = ty n.u) a (.ok f) := by
  unfold tyT; rw [if_neg (by simp [h]), if_neg (by omega), if_neg (by omega), if_pos h6]
theorem made_bind {α : Type} (t : Ty) (a : Nat) (f : Ty → Rs α) : (made t a).then f = (made t a).then fun _ => f t := by
  unfold made; split <;> rfl
theorem tyT_8 {n : Tn} {k : Tf} {env : List Ty} {a : Nat} (h : wordsE n env.length = 0) (h8 : n.kd = 8) : tyT n k env a = (tyF k true env (a + 1)).then fun ts => .ok (ts.getD 1 tI) := by
  unfold tyT; rw [if_neg (by simp [h]), if_neg (by omega), if_neg (by omega), if_neg (by omega), if_pos h8]
theorem tyT_else {n : Tn} {k : Tf} {env : List Ty} {a : Nat} (h : wordsE n env.length = 0) (h4 : n.kd ≠ 4) (h5 : n.kd ≠ 5) (h6 : n.kd ≠ 6) (h8 : n.kd ≠ 8) : tyT n k env a = (tyF k false env (a + 1)).then fun ts => ruleE n ts a := by
  unfold tyT; rw [if_neg (by simp [h]), if_neg h4, if_neg h5, if_neg h6, if_neg h8]
theorem kinds {k : Int} (h : arK k ≠ -2) : k = 1 ∨ k = 2 ∨ k = 3 ∨ k = 30 ∨ k = 7 ∨ k = 9 ∨ k = 10 ∨ k = 11 ∨ k = 12 ∨ k = 16 ∨ k = 14 ∨ k = 15 ∨ k = 13 ∨ k = 17 ∨ k = 18 ∨ k = 19 ∨ k = 20 ∨ k = 21 ∨ k = 22 ∨ k = 23 ∨ k = 24 ∨ k = 25 ∨ k = 26 ∨ k = 27 ∨ k = 28 ∨ k = 4 ∨ k = 5 ∨ k = 6 ∨ k = 8 := by
  refine Classical.byContradiction fun hn => h ?_
  simp only [not_or] at hn
  unfold arK
  rw [if_neg (by omega), if_neg (by omega), if_neg (by omega), if_neg (by omega), if_neg (by omega)]
theorem Tf.len0 {f : Tf} (h : f.len = 0) : f = .nil := by
  cases f with
  | nil => rfl
  | cons n k r => simp [Tf.len] at h
theorem Tf.len1 {f : Tf} (h : f.len = 1) : ∃ n k, f = .cons n k .nil := by
  cases f with
  | nil => simp [Tf.len] at h
  | cons n k r => exact ⟨n, k, by rw [Tf.len0 (f := r) (by simp only [Tf.len] at h; omega)]⟩
theorem Tf.len2 {f : Tf} (h : f.len = 2) : ∃ n k m l, f = .cons n k (.cons m l .nil) := by
  cases f with
  | nil => simp [Tf.len] at h
  | cons n k r =>
    obtain ⟨m, l, rfl⟩ := Tf.len1 (f := r) (by simp only [Tf.len] at h; omega)
    exact ⟨n, k, m, l, rfl⟩


set_option maxHeartbeats 4000000 in
theorem typ_step (L : List Tn) (A : Option Addr) (c mb cb c0 c1 c2 c3 : Nat) (hN : L.length ≤ 1000000) (hLc : L.length ≤ c) (hS : ∀ x ∈ L, x.small) (n : Tn) (k : Tf) (hkall : k.All (TypP L A c mb cb c0 c1 c2 c3)) : TypP L A c mb cb c0 c1 c2 c3 n k := by
  intro a rest env Ae ce w hdrop hwf henv henc hebd hen hc hL hrl
  have hn : L[a]? = some n := by rw [← List.head?_drop, hdrop]; rfl
  have hsm := hS n (List.mem_of_getElem? hn)
  have hg := goodN_iff.1 hwf.1
  have hkl := hwf.2.1
  have hkw := hwf.2.2.1
  have henl : env.length ≤ 100000 := by omega
  obtain ⟨kd, kids, nn, s, t, u, ln, cl⟩ := n
  simp only at hkl hg
  subst hkl
  by_cases hE : wordsE ⟨kd, (k.len : Int), nn, s, t, u, ln, cl⟩ env.length = 0
  · clear hwf
    have hgk := hg.2.2
    rcases kinds hg.1 with rfl | rfl | rfl | rfl | rfl | rfl | rfl | rfl | rfl | rfl | rfl | rfl | rfl | rfl | rfl | rfl | rfl | rfl | rfl | rfl | rfl | rfl | rfl | rfl | rfl | rfl | rfl | rfl | rfl

    · rw [tyT_else hE (show (1 : Int) ≠ 4 by decide) (show (1 : Int) ≠ 5 by decide) (show (1 : Int) ≠ 6 by decide) (show (1 : Int) ≠ 8 by decide)]
      exact typed_1 k.len nn s t u ln cl L A c mb cb c0 c1 c2 c3 k a env Ae ce w hn hsm hen henv henc henl hc hL hrl hN hLc rest hdrop rfl hkw hE hkall hebd (by rw [show arK 1 = 0 by decide] at hgk; omega)
    · rw [tyT_else hE (show (2 : Int) ≠ 4 by decide) (show (2 : Int) ≠ 5 by decide) (show (2 : Int) ≠ 6 by decide) (show (2 : Int) ≠ 8 by decide)]
      exact typed_2 k.len nn s t u ln cl L A c mb cb c0 c1 c2 c3 k a env Ae ce w hn hsm hen henv henc henl hc hL hrl hN hLc rest hdrop rfl hkw hE hkall hebd (by rw [show arK 2 = 0 by decide] at hgk; omega)
    · rw [tyT_else hE (show (3 : Int) ≠ 4 by decide) (show (3 : Int) ≠ 5 by decide) (show (3 : Int) ≠ 6 by decide) (show (3 : Int) ≠ 8 by decide)]
      exact typed_3 k.len nn s t u ln cl L A c mb cb c0 c1 c2 c3 k a env Ae ce w hn hsm hen henv henc henl hc hL hrl hN hLc rest hdrop rfl hkw hE hkall hebd (by rw [show arK 3 = 0 by decide] at hgk; omega)
    · rw [tyT_else hE (show (30 : Int) ≠ 4 by decide) (show (30 : Int) ≠ 5 by decide) (show (30 : Int) ≠ 6 by decide) (show (30 : Int) ≠ 8 by decide)]
      exact typed_30 k.len nn s t u ln cl L A c mb cb c0 c1 c2 c3 k a env Ae ce w hn hsm hen henv henc henl hc hL hrl hN hLc rest hdrop rfl hkw hE hkall hebd (by rw [show arK 30 = 1 by decide] at hgk; omega)
    · rw [tyT_else hE (show (7 : Int) ≠ 4 by decide) (show (7 : Int) ≠ 5 by decide) (show (7 : Int) ≠ 6 by decide) (show (7 : Int) ≠ 8 by decide)]
      exact typed_7 k.len nn s t u ln cl L A c mb cb c0 c1 c2 c3 k a env Ae ce w hn hsm hen henv henc henl hc hL hrl hN hLc rest hdrop rfl hkw hE hkall hebd (by rw [show arK 7 = 2 by decide] at hgk; omega)
    · rw [tyT_else hE (show (9 : Int) ≠ 4 by decide) (show (9 : Int) ≠ 5 by decide) (show (9 : Int) ≠ 6 by decide) (show (9 : Int) ≠ 8 by decide)]
      exact typed_9 k.len nn s t u ln cl L A c mb cb c0 c1 c2 c3 k a env Ae ce w hn hsm hen henv henc henl hc hL hrl hN hLc rest hdrop rfl hkw hE hkall hebd (by rw [show arK 9 = 3 by decide] at hgk; omega)
    · rw [tyT_else hE (show (10 : Int) ≠ 4 by decide) (show (10 : Int) ≠ 5 by decide) (show (10 : Int) ≠ 6 by decide) (show (10 : Int) ≠ 8 by decide)]
      exact typed_10 k.len nn s t u ln cl L A c mb cb c0 c1 c2 c3 k a env Ae ce w hn hsm hen henv henc henl hc hL hrl hN hLc rest hdrop rfl hkw hE hkall hebd (by rw [show arK 10 = 2 by decide] at hgk; omega)
    · rw [tyT_else hE (show (11 : Int) ≠ 4 by decide) (show (11 : Int) ≠ 5 by decide) (show (11 : Int) ≠ 6 by decide) (show (11 : Int) ≠ 8 by decide)]
      exact typed_11 k.len nn s t u ln cl L A c mb cb c0 c1 c2 c3 k a env Ae ce w hn hsm hen henv henc henl hc hL hrl hN hLc rest hdrop rfl hkw hE hkall hebd (by rw [show arK 11 = 2 by decide] at hgk; omega)
    · rw [tyT_else hE (show (12 : Int) ≠ 4 by decide) (show (12 : Int) ≠ 5 by decide) (show (12 : Int) ≠ 6 by decide) (show (12 : Int) ≠ 8 by decide)]
      exact typed_12 k.len nn s t u ln cl L A c mb cb c0 c1 c2 c3 k a env Ae ce w hn hsm hen henv henc henl hc hL hrl hN hLc rest hdrop rfl hkw hE hkall hebd (by rw [show arK 12 = 2 by decide] at hgk; omega)
    · rw [tyT_else hE (show (16 : Int) ≠ 4 by decide) (show (16 : Int) ≠ 5 by decide) (show (16 : Int) ≠ 6 by decide) (show (16 : Int) ≠ 8 by decide)]
      exact typed_16 k.len nn s t u ln cl L A c mb cb c0 c1 c2 c3 k a env Ae ce w hn hsm hen henv henc henl hc hL hrl hN hLc rest hdrop rfl hkw hE hkall hebd (by rw [show arK 16 = 1 by decide] at hgk; omega)
    · rw [tyT_else hE (show (14 : Int) ≠ 4 by decide) (show (14 : Int) ≠ 5 by decide) (show (14 : Int) ≠ 6 by decide) (show (14 : Int) ≠ 8 by decide)]
      exact typed_14 k.len nn s t u ln cl L A c mb cb c0 c1 c2 c3 k a env Ae ce w hn hsm hen henv henc henl hc hL hrl hN hLc rest hdrop rfl hkw hE hkall hebd (by rw [show arK 14 = 2 by decide] at hgk; omega)
    · rw [tyT_else hE (show (15 : Int) ≠ 4 by decide) (show (15 : Int) ≠ 5 by decide) (show (15 : Int) ≠ 6 by decide) (show (15 : Int) ≠ 8 by decide)]
      exact typed_15 k.len nn s t u ln cl L A c mb cb c0 c1 c2 c3 k a env Ae ce w hn hsm hen henv henc henl hc hL hrl hN hLc rest hdrop rfl hkw hE hkall hebd (by rw [show arK 15 = 2 by decide] at hgk; omega)
    · rw [tyT_else hE (show (13 : Int) ≠ 4 by decide) (show (13 : Int) ≠ 5 by decide) (show (13 : Int) ≠ 6 by decide) (show (13 : Int) ≠ 8 by decide)]
      exact typed_13 k.len nn s t u ln cl L A c mb cb c0 c1 c2 c3 k a env Ae ce w hn hsm hen henv henc henl hc hL hrl hN hLc rest hdrop rfl hkw hE hkall hebd (by rw [show arK 13 = 2 by decide] at hgk; omega)
    · rw [tyT_else hE (show (17 : Int) ≠ 4 by decide) (show (17 : Int) ≠ 5 by decide) (show (17 : Int) ≠ 6 by decide) (show (17 : Int) ≠ 8 by decide)]
      exact typed_17 k.len nn s t u ln cl L A c mb cb c0 c1 c2 c3 k a env Ae ce w hn hsm hen henv henc henl hc hL hrl hN hLc rest hdrop rfl hkw hE hkall hebd (by rw [show arK 17 = 1 by decide] at hgk; omega)
    · rw [tyT_else hE (show (18 : Int) ≠ 4 by decide) (show (18 : Int) ≠ 5 by decide) (show (18 : Int) ≠ 6 by decide) (show (18 : Int) ≠ 8 by decide)]
      exact typed_18 k.len nn s t u ln cl L A c mb cb c0 c1 c2 c3 k a env Ae ce w hn hsm hen henv henc henl hc hL hrl hN hLc rest hdrop rfl hkw hE hkall hebd (by rw [show arK 18 = 2 by decide] at hgk; omega)
    · rw [tyT_else hE (show (19 : Int) ≠ 4 by decide) (show (19 : Int) ≠ 5 by decide) (show (19 : Int) ≠ 6 by decide) (show (19 : Int) ≠ 8 by decide)]
      exact typed_19 k.len nn s t u ln cl L A c mb cb c0 c1 c2 c3 k a env Ae ce w hn hsm hen henv henc henl hc hL hrl hN hLc rest hdrop rfl hkw hE hkall hebd (by rw [show arK 19 = 1 by decide] at hgk; omega)
    · rw [tyT_else hE (show (20 : Int) ≠ 4 by decide) (show (20 : Int) ≠ 5 by decide) (show (20 : Int) ≠ 6 by decide) (show (20 : Int) ≠ 8 by decide)]
      exact typed_20 k.len nn s t u ln cl L A c mb cb c0 c1 c2 c3 k a env Ae ce w hn hsm hen henv henc henl hc hL hrl hN hLc rest hdrop rfl hkw hE hkall hebd (by rw [show arK 20 = 1 by decide] at hgk; omega)
    · rw [tyT_else hE (show (21 : Int) ≠ 4 by decide) (show (21 : Int) ≠ 5 by decide) (show (21 : Int) ≠ 6 by decide) (show (21 : Int) ≠ 8 by decide)]
      exact typed_21 k.len nn s t u ln cl L A c mb cb c0 c1 c2 c3 k a env Ae ce w hn hsm hen henv henc henl hc hL hrl hN hLc rest hdrop rfl hkw hE hkall hebd
    · rw [tyT_else hE (show (22 : Int) ≠ 4 by decide) (show (22 : Int) ≠ 5 by decide) (show (22 : Int) ≠ 6 by decide) (show (22 : Int) ≠ 8 by decide)]
      exact typed_22 k.len nn s t u ln cl L A c mb cb c0 c1 c2 c3 k a env Ae ce w hn hsm hen henv henc henl hc hL hrl hN hLc rest hdrop rfl hkw hE hkall hebd (by rw [show arK 22 = 1 by decide] at hgk; omega)
    · rw [tyT_else hE (show (23 : Int) ≠ 4 by decide) (show (23 : Int) ≠ 5 by decide) (show (23 : Int) ≠ 6 by decide) (show (23 : Int) ≠ 8 by decide)]
      exact typed_23 k.len nn s t u ln cl L A c mb cb c0 c1 c2 c3 k a env Ae ce w hn hsm hen henv henc henl hc hL hrl hN hLc rest hdrop rfl hkw hE hkall hebd (by rw [show arK 23 = 1 by decide] at hgk; omega)
    · rw [tyT_else hE (show (24 : Int) ≠ 4 by decide) (show (24 : Int) ≠ 5 by decide) (show (24 : Int) ≠ 6 by decide) (show (24 : Int) ≠ 8 by decide)]
      exact typed_24 k.len nn s t u ln cl L A c mb cb c0 c1 c2 c3 k a env Ae ce w hn hsm hen henv henc henl hc hL hrl hN hLc rest hdrop rfl hkw hE hkall hebd (by rw [show arK 24 = 1 by decide] at hgk; omega)
    · rw [tyT_else hE (show (25 : Int) ≠ 4 by decide) (show (25 : Int) ≠ 5 by decide) (show (25 : Int) ≠ 6 by decide) (show (25 : Int) ≠ 8 by decide)]
      exact typed_25 k.len nn s t u ln cl L A c mb cb c0 c1 c2 c3 k a env Ae ce w hn hsm hen henv henc henl hc hL hrl hN hLc rest hdrop rfl hkw hE hkall hebd (by rw [show arK 25 = 2 by decide] at hgk; omega)
    · rw [tyT_else hE (show (26 : Int) ≠ 4 by decide) (show (26 : Int) ≠ 5 by decide) (show (26 : Int) ≠ 6 by decide) (show (26 : Int) ≠ 8 by decide)]
      exact typed_26 k.len nn s t u ln cl L A c mb cb c0 c1 c2 c3 k a env Ae ce w hn hsm hen henv henc henl hc hL hrl hN hLc rest hdrop rfl hkw hE hkall hebd (by rw [show arK 26 = 1 by decide] at hgk; omega)
    · rw [tyT_else hE (show (27 : Int) ≠ 4 by decide) (show (27 : Int) ≠ 5 by decide) (show (27 : Int) ≠ 6 by decide) (show (27 : Int) ≠ 8 by decide)]
      exact typed_27 k.len nn s t u ln cl L A c mb cb c0 c1 c2 c3 k a env Ae ce w hn hsm hen henv henc henl hc hL hrl hN hLc rest hdrop rfl hkw hE hkall hebd (by rw [show arK 27 = 1 by decide] at hgk; omega)
    · rw [tyT_else hE (show (28 : Int) ≠ 4 by decide) (show (28 : Int) ≠ 5 by decide) (show (28 : Int) ≠ 6 by decide) (show (28 : Int) ≠ 8 by decide)]
      exact typed_28 k.len nn s t u ln cl L A c mb cb c0 c1 c2 c3 k a env Ae ce w hn hsm hen henv henc henl hc hL hrl hN hLc rest hdrop rfl hkw hE hkall hebd (by rw [show arK 28 = 2 by decide] at hgk; omega)
    · rw [tyT_var hE rfl]
      have hk0 : k = .nil := Tf.len0 (by rw [show arK 4 = 0 by decide] at hgk; omega)
      exact typed_var k.len nn s t u ln cl L A c mb cb c0 c1 c2 c3 k a env Ae ce w hn hsm hen henv henc henl hc hL hrl hN hLc hE (by rw [hk0]; rfl)
    · rw [tyT_5 hE rfl, made_bind]
      obtain ⟨n1, k1, hk1⟩ := Tf.len1 (f := k) (by rw [show arK 5 = 1 by decide] at hgk; omega)
      have := typed_5 k.len nn s t u ln cl L A c mb cb c0 c1 c2 c3 k a env Ae ce w hn hsm hen henv henc henl hc hL hrl hN hLc rest n1 k1 hk1 hdrop hkw hE hkall hebd
      rwa [made_bind] at this
    · rw [tyT_6 hE rfl, made_bind]
      obtain ⟨n1, k1, hk1⟩ := Tf.len1 (f := k) (by rw [show arK 6 = 1 by decide] at hgk; omega)
      have := typed_6 k.len nn s t u ln cl L A c mb cb c0 c1 c2 c3 k a env Ae ce w hn hsm hen henv henc henl hc hL hrl hN hLc rest n1 k1 hk1 hdrop hkw hE hkall hebd
      rwa [made_bind] at this
    · rw [tyT_8 hE rfl]
      obtain ⟨n1, k1, m2, k2, hk1⟩ := Tf.len2 (f := k) (by rw [show arK 8 = 2 by decide] at hgk; omega)
      exact typed_8 k.len nn s t u ln cl L A c mb cb c0 c1 c2 c3 k a env Ae ce w hn hsm hen henv henc henl hc hL hrl hN hLc rest n1 m2 k1 k2 hk1 hdrop hkw hE hkall hebd
  · rw [tyT_bad hE]
    exact ((typed_bad kd k.len nn s t u ln cl L A c mb cb c0 c1 c2 c3 k a env Ae ce w hn hsm hen henv henc henl hc hL hrl hN hLc _ rfl hE)).mono fun e w' h => ⟨h.1, h.2⟩

/-- typed, at a whole tree. -/
theorem typed_any (L : List Tn) (A : Option Addr) (c mb cb c0 c1 c2 c3 : Nat) (hN : L.length ≤ 1000000) (hLc : L.length ≤ c) (hS : ∀ x ∈ L, x.small) (n : Tn) (k : Tf) : TypP L A c mb cb c0 c1 c2 c3 n k :=
  (Tf.all_of (typ_step L A c mb cb c0 c1 c2 c3 hN hLc hS) (.cons n k .nil)).1
end Go.Proofs.Ytjklecncdinabaa.K

/- CkQ -/
namespace Go.Proofs.Ytjklecncdinabaa.K
open Go.RowKit Go.Proofs.Ytjklecncdinabaa.B Go.Proofs.Ytjklecncdinabaa.T
set_option linter.unusedVariables false
set_option linter.unusedSimpArgs false

theorem wp_opaque {P : Program} {c : Code} {Q : Exit → Act → World → Prop} {a : Act} {w : World} (h : ∀ Q' : Exit → Act → World → Prop, (∀ e a w, Q e a w → Q' e a w) → c.wp P Q' a w) : c.wp P Q a w := h Q fun _ _ _ h => h

theorem But.set1 {C : Nat → Prop} {w w' : World} (h : But C w w') {p : Addr} (hp : C p.block) (u : Value) : But C w (w'.setCell p u) :=
  ⟨h.os, h.tape, h.output, by rw [World.size_setCell]; exact h.size, fun k hk hc => (Below.heap_setCell w' p u k (fun e => hc (e ▸ hp))).trans (h.block k hk hc)⟩
theorem But.set3 {g : Nat} {w w' : World} (h : But (fun k => k = g ∨ k = g + 1 ∨ k = g + 2) w w') (u v x : Value) : But (fun k => k = g ∨ k = g + 1 ∨ k = g + 2) w (((w'.setCell ⟨g, 0, none⟩ u).setCell ⟨g + 1, 0, none⟩ v).setCell ⟨g + 2, 0, none⟩ x) :=
  But.set1 (But.set1 (But.set1 h (.inl rfl) u) (.inr (.inl rfl)) v) (.inr (.inr rfl)) x

set_option maxRecDepth 100000 in
set_option maxHeartbeats 4000000 in
theorem catch_flaw (g : Nat) (E x : Int) (w : World) (v0 v1 v2 : Value) (t0 t1 t2 : TypeId) (h0 : Blk w g t0 #[v0]) (h1 : Blk w (g + 1) t1 #[v1]) (h2 : Blk w (g + 2) t2 #[v2]) :
    CallsD Try.prog 25 #[.pointer (some ⟨g, 0, none⟩), .pointer (some ⟨g + 1, 0, none⟩), .pointer (some ⟨g + 2, 0, none⟩)] (.panicking [{ v := .iface 73 (.agg #[.int .i64 E, .int .i64 x]), recovered := false }]) w fun e u' w' =>
      e = .returned (.tuple #[]) ∧ u' = .panicking [{ v := .iface 73 (.agg #[.int .i64 E, .int .i64 x]), recovered := true }] ∧ But (fun k => k = g ∨ k = g + 1 ∨ k = g + 2) w w' ∧
      w'.cell? ⟨g, 0, none⟩ = some (.string ⟨#[]⟩) ∧ w'.cell? ⟨g + 1, 0, none⟩ = some (.int .i64 E) ∧ w'.cell? ⟨g + 2, 0, none⟩ = some (.int .i64 x) := by
  have hta : ∀ W, (Instr.typeAssert (.iface 73 (.agg #[.int .i64 E, .int .i64 x])) 20 73 true).run Try.prog W = .ok (.tuple #[.agg #[.int .i64 E, .int .i64 x], .bool true]) W := fun _ => rfl
  refine callsD_of_wpS Try.func25 rfl fun c₀ cs hu => ?_
  simp only [Try.ntmps25, List.size_toArray, List.length_cons, List.length_nil, Nat.reduceAdd, Nat.reduceSub, Array.replicate_succ, Array.replicate_zero, List.push_toArray, List.append_toArray, List.nil_append, List.cons_append]
  apply wpS_seq
  apply wpS_region
  simp [wpOpsS, go_sem, recoverD, hu, Try.ntmps25, Exit.thenS]
  refine wpS_of_wp ?_
  cases c₀
  simp only at hu
  subst hu
  have HG := Lib.hid (And.intro h0 (And.intro h1 h2))
  clear h0 h1 h2
  refine wp_opaque fun Q hQ => ?_
  have HQ := Lib.hid hQ
  clear hQ
  go_wp2_with fail
  have hbt : But (fun k => k = g ∨ k = g + 1 ∨ k = g + 2) w (w.alloc (.cells #[.int .i64 E, .int .i64 x] 73)) := (But.refl _ _).alloc _
  have b3 : Blk (w.alloc (.cells #[.int .i64 E, .int .i64 x] 73)) w.heap.size 73 #[.int .i64 E, .int .i64 x] := Blk.new _ _ _
  have b0 : Blk (w.alloc (.cells #[.int .i64 E, .int .i64 x] 73)) _ _ _ := HG.out.1.alloc _
  have b1 : Blk (w.alloc (.cells #[.int .i64 E, .int .i64 x] 73)) _ _ _ := HG.out.2.1.alloc _
  have b2 : Blk (w.alloc (.cells #[.int .i64 E, .int .i64 x] 73)) _ _ _ := HG.out.2.2.alloc _
  generalize w.alloc (.cells #[.int .i64 E, .int .i64 x] 73) = W1 at hbt b3 b0 b1 b2 ⊢
  have hne : g + 2 < w.heap.size := HG.out.2.2.lt
  generalize w.heap.size = b at b3 hne ⊢
  have m0 := b0.cell 0
  have m1 := b1.cell 0
  have m2 := b2.cell 0
  have m3 := b3.cell 0
  have m4 := b3.cell 1
  have f0 := b0.frozen 0
  have f1 := b1.frozen 0
  have f2 := b2.frozen 0
  have q0 : ¬ b = g := by omega
  have q1 : ¬ b = g + 1 := by omega
  have q2 : ¬ b = g + 2 := by omega
  have q0' : ¬ g = b := by omega
  have q1' : ¬ g + 1 = b := by omega
  have q2' : ¬ g + 2 = b := by omega
  clear hne
  have HB := Lib.hid (And.intro b0 (And.intro b1 (And.intro b2 hbt)))
  clear b0 b1 b2 b3 hbt
  simp only [List.getElem?_toArray, List.getElem?_cons_zero, List.getElem?_cons_succ] at m0 m1 m2 m3 m4
  go_region
  obtain ⟨b0, b1, b2, hbt⟩ := HB.out
  refine HQ.out _ _ _ ⟨rfl, _, rfl, .tuple #[], results_none rfl _ _ _, rfl, rfl, ?_, ?_⟩
  · exact (But.set3 hbt (.string ⟨#[]⟩) (.int .i64 E) (.int .i64 x)).drewN 1
  · have k0 := ((b0.set_ 0 (.string ⟨#[]⟩)).far (p := ⟨g + 1, 0, none⟩) (by simp) (.int .i64 E)).far (p := ⟨g + 2, 0, none⟩) (by simp) (.int .i64 x)
    have k1 := ((b1.far (p := ⟨g, 0, none⟩) (by simp) (.string ⟨#[]⟩)).set_ 0 (.int .i64 E)).far (p := ⟨g + 2, 0, none⟩) (by simp) (.int .i64 x)
    have k2 := ((b2.far (p := ⟨g, 0, none⟩) (by simp) (.string ⟨#[]⟩)).far (p := ⟨g + 1, 0, none⟩) (by simp) (.int .i64 E)).set_ 0 (.int .i64 x)
    exact ⟨(k0.drew.cell 0).trans rfl, (k1.drew.cell 0).trans rfl, (k2.drew.cell 0).trans rfl⟩

set_option maxRecDepth 100000 in
set_option maxHeartbeats 4000000 in
theorem catch_none (p0 p1 p2 : Addr) (w : World) :
    CallsD Try.prog 25 #[.pointer (some p0), .pointer (some p1), .pointer (some p2)] .returning w fun e u' w' =>
      e = .returned (.tuple #[]) ∧ u' = .returning ∧ Below w.heap.size w w' := by
  have hta : ∀ W, (Instr.typeAssert .nilIface 20 73 true).run Try.prog W = .ok (.tuple #[.agg #[.int .i64 0, .int .i64 0], .bool false]) W := fun _ => rfl
  refine callsD_of_wpS Try.func25 rfl fun c₀ cs hu => ?_
  simp only [Try.ntmps25, List.size_toArray, List.length_cons, List.length_nil, Nat.reduceAdd, Nat.reduceSub, Array.replicate_succ, Array.replicate_zero, List.push_toArray, List.append_toArray, List.nil_append, List.cons_append]
  apply wpS_seq
  apply wpS_region
  simp [wpOpsS, go_sem, recoverD, hu, Try.ntmps25, Exit.thenS]
  refine wpS_of_wp ?_
  cases c₀
  simp only at hu
  subst hu
  refine wp_opaque fun Q hQ => ?_
  have HQ := Lib.hid hQ
  clear hQ
  go_wp2_with fail
  refine HQ.out _ _ _ ⟨rfl, _, rfl, .tuple #[], results_none rfl _ _ _, rfl, rfl, ?_⟩
  exact Below.alloc (Below.refl _ _) (Nat.le_refl _) _
end Go.Proofs.Ytjklecncdinabaa.K
