/- Parts of this claim: CkO, RtS. -/
import Derived.Test.YtmagljnlfponaaaGreatP20
import Derived.Test.YtmagljnlfponaaaGreatP21
import Derived.Test.YtmagljnlfponaaaGreatP22
import Derived.Test.YtmagljnlfponaaaGreatP19
set_option linter.unusedVariables false
set_option linter.unusedSimpArgs false
/- CkO -/
namespace Go.Proofs.YtmagljnlfponaaaGreat.K
open Go.RowKit Go.Proofs.YtmagljnlfponaaaGreat.B Go.Proofs.YtmagljnlfponaaaGreat.T
set_option linter.unusedVariables false
set_option linter.unusedSimpArgs false

theorem ent_of {P : Program} {f : FuncId} {fn : Func} {c : Code} (hf : P.funcs[f]? = some fn) (hname : (fn.name == "runtime.NumGoroutine") = false) (hb : fn.body = some c) (args : Array Value) (w : World) : (callFunc f args).run P w = .ok (.enter f args) w := by
  have h1 : fn.name ≠ "runtime.NumGoroutine" := by simpa using hname
  simp [callFunc, hf, h1, hb]
theorem tyT_bad {n : Tn} {k : Tf} {env : List Ty} {a : Nat} (h : wordsE n env.length ≠ 0) : tyT n k env a = .bad (wordsE n env.length) a := by
  unfold tyT; rw [if_pos h]
theorem tyT_var {n : Tn} {k : Tf} {env : List Ty} {a : Nat} (h : wordsE n env.length = 0) (h4 : n.kd = 4) : tyT n k env a = .ok (env.getD n.n.toNat tI) := by
  unfold tyT; rw [if_neg (by simp [h]), if_pos h4]
theorem tyT_5 {n : Tn} {k : Tf} {env : List Ty} {a : Nat} (h : wordsE n env.length = 0) (h5 : n.kd = 5) : tyT n k env a = (made (.bin 62 (ty n.t) (ty n.u)) a).then fun f => (tyF k false (ty n.t :: env) (a + 1)).then fun ts => want (ts.getD 0 tI = ty n.u) a (.ok f) := by
  unfold tyT; rw [if_neg (by simp [h]), if_neg (by omega), if_pos h5]
theorem tyT_6 {n : Tn} {k : Tf} {env : List Ty} {a : Nat} (h : wordsE n env.length = 0) (h6 : n.kd = 6) : tyT n k env a = (made (.bin 62 (ty n.t) (ty n.u)) a).then fun f => (tyF k false (ty n.t :: f :: env) (a + 1)).then fun ts => want (ts.getD 0 tI = ty n.u) a (.ok f) := by
  unfold tyT; rw [if_neg (by simp [h]), if_neg (by omega), if_neg (by omega), if_pos h6]
theorem made_bind {α : Type} (t : Ty) (a : Nat) (f : Ty → Rs α) : (made t a).then f = (made t a).then fun _ => f t := by
  unfold made; split <;> rfl
theorem tyT_8 {n : Tn} {k : Tf} {env : List Ty} {a : Nat} (h : wordsE n env.length = 0) (h8 : n.kd = 8) : tyT n k env a = (tyF k true env (a + 1)).then fun ts => .ok (ts.getD 1 tI) := by
  unfold tyT; rw [if_neg (by simp [h]), if_neg (by omega), if_neg (by omega), if_neg (by omega), if_pos h8]
theorem tyT_else {n : Tn} {k : Tf} {env : List Ty} {a : Nat} (h : wordsE n env.length = 0) (h4 : n.kd ≠ 4) (h5 : n.kd ≠ 5) (h6 : n.kd ≠ 6) (h8 : n.kd ≠ 8) : tyT n k env a = (tyF k false env (a + 1)).then fun ts => ruleE n ts a := by
  unfold tyT; rw [if_neg (by simp [h]), if_neg h4, if_neg h5, if_neg h6, if_neg h8]
theorem kinds {k : Int} (h : arK k ≠ -2) : k = 1 ∨ k = 2 ∨ k = 3 ∨ k = 30 ∨ k = 7 ∨ k = 9 ∨ k = 10 ∨ k = 11 ∨ k = 12 ∨ k = 16 ∨ k = 14 ∨ k = 15 ∨ k = 13 ∨ k = 17 ∨ k = 18 ∨ k = 19 ∨ k = 20 ∨ k = 21 ∨ k = 22 ∨ k = 23 ∨ k = 24 ∨ k = 25 ∨ k = 26 ∨ k = 27 ∨ k = 28 ∨ k = 4 ∨ k = 5 ∨ k = 6 ∨ k = 8 := by
  refine Classical.byContradiction fun hn => h ?_
  simp only [not_or] at hn
  unfold arK
  rw [if_neg (by omega), if_neg (by omega), if_neg (by omega), if_neg (by omega), if_neg (by omega)]
theorem Tf.len0 {f : Tf} (h : f.len = 0) : f = .nil := by
  cases f with
  | nil => rfl
  | cons n k r => simp [Tf.len] at h
theorem Tf.len1 {f : Tf} (h : f.len = 1) : ∃ n k, f = .cons n k .nil := by
  cases f with
  | nil => simp [Tf.len] at h
  | cons n k r => exact ⟨n, k, by rw [Tf.len0 (f := r) (by simp only [Tf.len] at h; omega)]⟩
theorem Tf.len2 {f : Tf} (h : f.len = 2) : ∃ n k m l, f = .cons n k (.cons m l .nil) := by
  cases f with
  | nil => simp [Tf.len] at h
  | cons n k r =>
    obtain ⟨m, l, rfl⟩ := Tf.len1 (f := r) (by simp only [Tf.len] at h; omega)
    exact ⟨n, k, m, l, rfl⟩


set_option maxHeartbeats 4000000 in
theorem typ_step (L : List Tn) (A : Option Addr) (c mb cb c0 c1 c2 c3 : Nat) (hN : L.length ≤ 1000000) (hLc : L.length ≤ c) (hS : ∀ x ∈ L, x.small) (n : Tn) (k : Tf) (hkall : k.All (TypP L A c mb cb c0 c1 c2 c3)) : TypP L A c mb cb c0 c1 c2 c3 n k := by
  intro a rest env Ae ce w hdrop hwf henv henc hebd hen hc hL hrl
  have hn : L[a]? = some n := by rw [← List.head?_drop, hdrop]; rfl
  have hsm := hS n (List.mem_of_getElem? hn)
  have hg := goodN_iff.1 hwf.1
  have hkl := hwf.2.1
  have hkw := hwf.2.2.1
  have henl : env.length ≤ 100000 := by omega
  obtain ⟨kd, kids, nn, s, t, u, ln, cl⟩ := n
  simp only at hkl hg
  subst hkl
  have hKL : k.len ≤ 1000000 := by
    have h1 := congrArg List.length hdrop
    simp only [List.length_drop, List.length_append, List.length_cons, Tf.list_len] at h1
    have h2 := Tf.len_le k
    omega
  by_cases hE : wordsE ⟨kd, (k.len : Int), nn, s, t, u, ln, cl⟩ env.length = 0
  · clear hwf
    have hgk := hg.2.2
    rcases kinds hg.1 with rfl | rfl | rfl | rfl | rfl | rfl | rfl | rfl | rfl | rfl | rfl | rfl | rfl | rfl | rfl | rfl | rfl | rfl | rfl | rfl | rfl | rfl | rfl | rfl | rfl | rfl | rfl | rfl | rfl

    · rw [tyT_else hE (show (1 : Int) ≠ 4 by decide) (show (1 : Int) ≠ 5 by decide) (show (1 : Int) ≠ 6 by decide) (show (1 : Int) ≠ 8 by decide)]
      have hK : k.len = 0 := by rw [show arK 1 = 0 by decide] at hgk; omega
      exact typed_met 1 63 k.len nn s t u ln cl L A c mb cb c0 c1 c2 c3 k a env Ae ce w hn hsm hen henv henc henl hc hL hrl hN hLc rest hdrop rfl hkw hE hkall hebd (ent_of Tryz.func63 (by kernel_rfl) rfl) (by decide) (by simp [ruleL]) (fun W' tsm AV cV _ f3 f2 hV1 hka hru => by rw [hK] at f2 hV1 ⊢; exact rule_1 _ _ _ nn s t u ln cl tsm a W')
    · rw [tyT_else hE (show (2 : Int) ≠ 4 by decide) (show (2 : Int) ≠ 5 by decide) (show (2 : Int) ≠ 6 by decide) (show (2 : Int) ≠ 8 by decide)]
      have hK : k.len = 0 := by rw [show arK 2 = 0 by decide] at hgk; omega
      exact typed_met 2 63 k.len nn s t u ln cl L A c mb cb c0 c1 c2 c3 k a env Ae ce w hn hsm hen henv henc henl hc hL hrl hN hLc rest hdrop rfl hkw hE hkall hebd (ent_of Tryz.func63 (by kernel_rfl) rfl) (by decide) (by simp [ruleL]) (fun W' tsm AV cV _ f3 f2 hV1 hka hru => by rw [hK] at f2 hV1 ⊢; exact rule_2 _ _ _ nn s t u ln cl tsm a W')
    · rw [tyT_else hE (show (3 : Int) ≠ 4 by decide) (show (3 : Int) ≠ 5 by decide) (show (3 : Int) ≠ 6 by decide) (show (3 : Int) ≠ 8 by decide)]
      have hK : k.len = 0 := by rw [show arK 3 = 0 by decide] at hgk; omega
      exact typed_met 3 63 k.len nn s t u ln cl L A c mb cb c0 c1 c2 c3 k a env Ae ce w hn hsm hen henv henc henl hc hL hrl hN hLc rest hdrop rfl hkw hE hkall hebd (ent_of Tryz.func63 (by kernel_rfl) rfl) (by decide) (by simp [ruleL]) (fun W' tsm AV cV _ f3 f2 hV1 hka hru => by rw [hK] at f2 hV1 ⊢; exact rule_3 _ _ _ nn s t u ln cl tsm a W')
    · rw [tyT_else hE (show (30 : Int) ≠ 4 by decide) (show (30 : Int) ≠ 5 by decide) (show (30 : Int) ≠ 6 by decide) (show (30 : Int) ≠ 8 by decide)]
      have hK : k.len = 1 := by rw [show arK 30 = 1 by decide] at hgk; omega
      exact typed_met 30 64 k.len nn s t u ln cl L A c mb cb c0 c1 c2 c3 k a env Ae ce w hn hsm hen henv henc henl hc hL hrl hN hLc rest hdrop rfl hkw hE hkall hebd (ent_of Tryz.func64 (by kernel_rfl) rfl) (by decide) (by simp [ruleL]) (fun W' tsm AV cV _ f3 f2 hV1 hka hru => by rw [hK] at f2 hV1 ⊢; exact rule_30 _ _ nn s t u ln cl tsm AV cV a W' f3 (by omega) (by omega) hka (castW hE).1 (castW hE).2)
    · rw [tyT_else hE (show (7 : Int) ≠ 4 by decide) (show (7 : Int) ≠ 5 by decide) (show (7 : Int) ≠ 6 by decide) (show (7 : Int) ≠ 8 by decide)]
      have hK : k.len = 2 := by rw [show arK 7 = 2 by decide] at hgk; omega
      exact typed_met 7 65 k.len nn s t u ln cl L A c mb cb c0 c1 c2 c3 k a env Ae ce w hn hsm hen henv henc henl hc hL hrl hN hLc rest hdrop rfl hkw hE hkall hebd (ent_of Tryz.func65 (by kernel_rfl) rfl) (by decide) (by simp [ruleL]) (fun W' tsm AV cV _ f3 f2 hV1 hka hru => by rw [hK] at f2 hV1 ⊢; exact rule_7 _ _ nn s t u ln cl tsm AV cV a W' f3 (by omega) (by omega) hka)
    · rw [tyT_else hE (show (9 : Int) ≠ 4 by decide) (show (9 : Int) ≠ 5 by decide) (show (9 : Int) ≠ 6 by decide) (show (9 : Int) ≠ 8 by decide)]
      have hK : k.len = 3 := by rw [show arK 9 = 3 by decide] at hgk; omega
      exact typed_met 9 66 k.len nn s t u ln cl L A c mb cb c0 c1 c2 c3 k a env Ae ce w hn hsm hen henv henc henl hc hL hrl hN hLc rest hdrop rfl hkw hE hkall hebd (ent_of Tryz.func66 (by kernel_rfl) rfl) (by decide) (by simp [ruleL]) (fun W' tsm AV cV _ f3 f2 hV1 hka hru => by rw [hK] at f2 hV1 ⊢; exact rule_9 _ _ nn s t u ln cl tsm AV cV a W' f3 (by omega) (by omega) hka)
    · rw [tyT_else hE (show (10 : Int) ≠ 4 by decide) (show (10 : Int) ≠ 5 by decide) (show (10 : Int) ≠ 6 by decide) (show (10 : Int) ≠ 8 by decide)]
      have hK : k.len = 2 := by rw [show arK 10 = 2 by decide] at hgk; omega
      exact typed_clo 10 89 (.pointer (some ⟨c0, 0, none⟩)) (.pointer (some ⟨c0 + 1, 0, none⟩)) k.len nn s t u ln cl L A c mb cb c0 c1 c2 c3 k a env Ae ce w hn hsm hen henv henc henl hc hL hrl hN hLc rest hdrop rfl hkw hE hkall hebd (ent_of Tryz.func89 (by kernel_rfl) rfl) (by decide) (by simp [ruleL]) (fun W' tsm AV cV _ f3 f2 hV1 hka hru => by rw [hK] at f2 hV1 ⊢; exact rule_10 _ _ nn s t u ln cl tsm AV cV a W' cb c0 f3 (by omega) (by omega) hka hru.2.2.2.1)
    · rw [tyT_else hE (show (11 : Int) ≠ 4 by decide) (show (11 : Int) ≠ 5 by decide) (show (11 : Int) ≠ 6 by decide) (show (11 : Int) ≠ 8 by decide)]
      have hK : k.len = 2 := by rw [show arK 11 = 2 by decide] at hgk; omega
      exact typed_clo 11 89 (.pointer (some ⟨c0, 0, none⟩)) (.pointer (some ⟨c0 + 1, 0, none⟩)) k.len nn s t u ln cl L A c mb cb c0 c1 c2 c3 k a env Ae ce w hn hsm hen henv henc henl hc hL hrl hN hLc rest hdrop rfl hkw hE hkall hebd (ent_of Tryz.func89 (by kernel_rfl) rfl) (by decide) (by simp [ruleL]) (fun W' tsm AV cV _ f3 f2 hV1 hka hru => by rw [hK] at f2 hV1 ⊢; exact rule_11 _ _ nn s t u ln cl tsm AV cV a W' cb c0 f3 (by omega) (by omega) hka hru.2.2.2.1)
    · rw [tyT_else hE (show (12 : Int) ≠ 4 by decide) (show (12 : Int) ≠ 5 by decide) (show (12 : Int) ≠ 6 by decide) (show (12 : Int) ≠ 8 by decide)]
      have hK : k.len = 2 := by rw [show arK 12 = 2 by decide] at hgk; omega
      exact typed_clo 12 89 (.pointer (some ⟨c0, 0, none⟩)) (.pointer (some ⟨c0 + 1, 0, none⟩)) k.len nn s t u ln cl L A c mb cb c0 c1 c2 c3 k a env Ae ce w hn hsm hen henv henc henl hc hL hrl hN hLc rest hdrop rfl hkw hE hkall hebd (ent_of Tryz.func89 (by kernel_rfl) rfl) (by decide) (by simp [ruleL]) (fun W' tsm AV cV _ f3 f2 hV1 hka hru => by rw [hK] at f2 hV1 ⊢; exact rule_12 _ _ nn s t u ln cl tsm AV cV a W' cb c0 f3 (by omega) (by omega) hka hru.2.2.2.1)
    · rw [tyT_else hE (show (16 : Int) ≠ 4 by decide) (show (16 : Int) ≠ 5 by decide) (show (16 : Int) ≠ 6 by decide) (show (16 : Int) ≠ 8 by decide)]
      have hK : k.len = 1 := by rw [show arK 16 = 1 by decide] at hgk; omega
      exact typed_clo 16 89 (.pointer (some ⟨c0, 0, none⟩)) (.pointer (some ⟨c0 + 1, 0, none⟩)) k.len nn s t u ln cl L A c mb cb c0 c1 c2 c3 k a env Ae ce w hn hsm hen henv henc henl hc hL hrl hN hLc rest hdrop rfl hkw hE hkall hebd (ent_of Tryz.func89 (by kernel_rfl) rfl) (by decide) (by simp [ruleL]) (fun W' tsm AV cV _ f3 f2 hV1 hka hru => by rw [hK] at f2 hV1 ⊢; exact rule_16 _ _ nn s t u ln cl tsm AV cV a W' cb c0 f3 (by omega) (by omega) hka hru.2.2.2.1)
    · rw [tyT_else hE (show (14 : Int) ≠ 4 by decide) (show (14 : Int) ≠ 5 by decide) (show (14 : Int) ≠ 6 by decide) (show (14 : Int) ≠ 8 by decide)]
      have hK : k.len = 2 := by rw [show arK 14 = 2 by decide] at hgk; omega
      exact typed_clo 14 89 (.pointer (some ⟨c1, 0, none⟩)) (.pointer (some ⟨c1 + 1, 0, none⟩)) k.len nn s t u ln cl L A c mb cb c0 c1 c2 c3 k a env Ae ce w hn hsm hen henv henc henl hc hL hrl hN hLc rest hdrop rfl hkw hE hkall hebd (ent_of Tryz.func89 (by kernel_rfl) rfl) (by decide) (by simp [ruleL]) (fun W' tsm AV cV _ f3 f2 hV1 hka hru => by rw [hK] at f2 hV1 ⊢; exact rule_14 _ _ nn s t u ln cl tsm AV cV a W' cb c1 f3 (by omega) (by omega) hka hru.2.2.2.2.1)
    · rw [tyT_else hE (show (15 : Int) ≠ 4 by decide) (show (15 : Int) ≠ 5 by decide) (show (15 : Int) ≠ 6 by decide) (show (15 : Int) ≠ 8 by decide)]
      have hK : k.len = 2 := by rw [show arK 15 = 2 by decide] at hgk; omega
      exact typed_clo 15 89 (.pointer (some ⟨c1, 0, none⟩)) (.pointer (some ⟨c1 + 1, 0, none⟩)) k.len nn s t u ln cl L A c mb cb c0 c1 c2 c3 k a env Ae ce w hn hsm hen henv henc henl hc hL hrl hN hLc rest hdrop rfl hkw hE hkall hebd (ent_of Tryz.func89 (by kernel_rfl) rfl) (by decide) (by simp [ruleL]) (fun W' tsm AV cV _ f3 f2 hV1 hka hru => by rw [hK] at f2 hV1 ⊢; exact rule_15 _ _ nn s t u ln cl tsm AV cV a W' cb c1 f3 (by omega) (by omega) hka hru.2.2.2.2.1)
    · rw [tyT_else hE (show (13 : Int) ≠ 4 by decide) (show (13 : Int) ≠ 5 by decide) (show (13 : Int) ≠ 6 by decide) (show (13 : Int) ≠ 8 by decide)]
      have hK : k.len = 2 := by rw [show arK 13 = 2 by decide] at hgk; omega
      exact typed_clo 13 89 (.pointer (some ⟨c2, 0, none⟩)) (.pointer (some ⟨c2 + 1, 0, none⟩)) k.len nn s t u ln cl L A c mb cb c0 c1 c2 c3 k a env Ae ce w hn hsm hen henv henc henl hc hL hrl hN hLc rest hdrop rfl hkw hE hkall hebd (ent_of Tryz.func89 (by kernel_rfl) rfl) (by decide) (by simp [ruleL]) (fun W' tsm AV cV _ f3 f2 hV1 hka hru => by rw [hK] at f2 hV1 ⊢; exact rule_13 _ _ nn s t u ln cl tsm AV cV a W' cb c2 f3 (by omega) (by omega) hka hru.2.2.2.2.2.1)
    · rw [tyT_else hE (show (17 : Int) ≠ 4 by decide) (show (17 : Int) ≠ 5 by decide) (show (17 : Int) ≠ 6 by decide) (show (17 : Int) ≠ 8 by decide)]
      have hK : k.len = 1 := by rw [show arK 17 = 1 by decide] at hgk; omega
      exact typed_clo 17 89 (.pointer (some ⟨c3, 0, none⟩)) (.pointer (some ⟨c3 + 1, 0, none⟩)) k.len nn s t u ln cl L A c mb cb c0 c1 c2 c3 k a env Ae ce w hn hsm hen henv henc henl hc hL hrl hN hLc rest hdrop rfl hkw hE hkall hebd (ent_of Tryz.func89 (by kernel_rfl) rfl) (by decide) (by simp [ruleL]) (fun W' tsm AV cV _ f3 f2 hV1 hka hru => by rw [hK] at f2 hV1 ⊢; exact rule_17 _ _ nn s t u ln cl tsm AV cV a W' cb c3 f3 (by omega) (by omega) hka hru.2.2.2.2.2.2)
    · rw [tyT_else hE (show (18 : Int) ≠ 4 by decide) (show (18 : Int) ≠ 5 by decide) (show (18 : Int) ≠ 6 by decide) (show (18 : Int) ≠ 8 by decide)]
      have hK : k.len = 2 := by rw [show arK 18 = 2 by decide] at hgk; omega
      exact typed_met 18 67 k.len nn s t u ln cl L A c mb cb c0 c1 c2 c3 k a env Ae ce w hn hsm hen henv henc henl hc hL hrl hN hLc rest hdrop rfl hkw hE hkall hebd (ent_of Tryz.func67 (by kernel_rfl) rfl) (by decide) (by simp [ruleL]) (fun W' tsm AV cV _ f3 f2 hV1 hka hru => by rw [hK] at f2 hV1 ⊢; exact rule_18 _ _ nn s t u ln cl tsm AV cV a W' f3 (by omega) (by omega) hka)
    · rw [tyT_else hE (show (19 : Int) ≠ 4 by decide) (show (19 : Int) ≠ 5 by decide) (show (19 : Int) ≠ 6 by decide) (show (19 : Int) ≠ 8 by decide)]
      have hK : k.len = 1 := by rw [show arK 19 = 1 by decide] at hgk; omega
      exact typed_met 19 68 k.len nn s t u ln cl L A c mb cb c0 c1 c2 c3 k a env Ae ce w hn hsm hen henv henc henl hc hL hrl hN hLc rest hdrop rfl hkw hE hkall hebd (ent_of Tryz.func68 (by kernel_rfl) rfl) (by decide) (by simp [ruleL]) (fun W' tsm AV cV _ f3 f2 hV1 hka hru => by rw [hK] at f2 hV1 ⊢; exact rule_19 _ _ nn s t u ln cl tsm AV cV a W' f3 (by omega) (by omega) hka)
    · rw [tyT_else hE (show (20 : Int) ≠ 4 by decide) (show (20 : Int) ≠ 5 by decide) (show (20 : Int) ≠ 6 by decide) (show (20 : Int) ≠ 8 by decide)]
      have hK : k.len = 1 := by rw [show arK 20 = 1 by decide] at hgk; omega
      exact typed_met 20 68 k.len nn s t u ln cl L A c mb cb c0 c1 c2 c3 k a env Ae ce w hn hsm hen henv henc henl hc hL hrl hN hLc rest hdrop rfl hkw hE hkall hebd (ent_of Tryz.func68 (by kernel_rfl) rfl) (by decide) (by simp [ruleL]) (fun W' tsm AV cV _ f3 f2 hV1 hka hru => by rw [hK] at f2 hV1 ⊢; exact rule_20 _ _ nn s t u ln cl tsm AV cV a W' f3 (by omega) (by omega) hka)
    · rw [tyT_else hE (show (21 : Int) ≠ 4 by decide) (show (21 : Int) ≠ 5 by decide) (show (21 : Int) ≠ 6 by decide) (show (21 : Int) ≠ 8 by decide)]
      exact typed_met 21 69 k.len nn s t u ln cl L A c mb cb c0 c1 c2 c3 k a env Ae ce w hn hsm hen henv henc henl hc hL hrl hN hLc rest hdrop rfl hkw hE hkall hebd (ent_of Tryz.func69 (by kernel_rfl) rfl) (by decide) (by simp [ruleL]) (fun W' tsm AV cV _ f3 f2 hV1 hka hru => by exact rule_21 _ _ nn s t u ln cl tsm AV _ cV a W' f3 f2 hV1 (by omega) hka (listW hE))
    · rw [tyT_else hE (show (22 : Int) ≠ 4 by decide) (show (22 : Int) ≠ 5 by decide) (show (22 : Int) ≠ 6 by decide) (show (22 : Int) ≠ 8 by decide)]
      have hK : k.len = 1 := by rw [show arK 22 = 1 by decide] at hgk; omega
      exact typed_met 22 70 k.len nn s t u ln cl L A c mb cb c0 c1 c2 c3 k a env Ae ce w hn hsm hen henv henc henl hc hL hrl hN hLc rest hdrop rfl hkw hE hkall hebd (ent_of Tryz.func70 (by kernel_rfl) rfl) (by decide) (by simp [ruleL]) (fun W' tsm AV cV _ f3 f2 hV1 hka hru => by rw [hK] at f2 hV1 ⊢; exact rule_22 _ _ nn s t u ln cl tsm AV cV a W' f3 (by omega) (by omega) hka)
    · rw [tyT_else hE (show (23 : Int) ≠ 4 by decide) (show (23 : Int) ≠ 5 by decide) (show (23 : Int) ≠ 6 by decide) (show (23 : Int) ≠ 8 by decide)]
      have hK : k.len = 1 := by rw [show arK 23 = 1 by decide] at hgk; omega
      exact typed_met 23 70 k.len nn s t u ln cl L A c mb cb c0 c1 c2 c3 k a env Ae ce w hn hsm hen henv henc henl hc hL hrl hN hLc rest hdrop rfl hkw hE hkall hebd (ent_of Tryz.func70 (by kernel_rfl) rfl) (by decide) (by simp [ruleL]) (fun W' tsm AV cV _ f3 f2 hV1 hka hru => by rw [hK] at f2 hV1 ⊢; exact rule_23 _ _ nn s t u ln cl tsm AV cV a W' f3 (by omega) (by omega) hka)
    · rw [tyT_else hE (show (24 : Int) ≠ 4 by decide) (show (24 : Int) ≠ 5 by decide) (show (24 : Int) ≠ 6 by decide) (show (24 : Int) ≠ 8 by decide)]
      have hK : k.len = 1 := by rw [show arK 24 = 1 by decide] at hgk; omega
      exact typed_met 24 70 k.len nn s t u ln cl L A c mb cb c0 c1 c2 c3 k a env Ae ce w hn hsm hen henv henc henl hc hL hrl hN hLc rest hdrop rfl hkw hE hkall hebd (ent_of Tryz.func70 (by kernel_rfl) rfl) (by decide) (by simp [ruleL]) (fun W' tsm AV cV _ f3 f2 hV1 hka hru => by rw [hK] at f2 hV1 ⊢; exact rule_24 _ _ nn s t u ln cl tsm AV cV a W' f3 (by omega) (by omega) hka)
    · rw [tyT_else hE (show (25 : Int) ≠ 4 by decide) (show (25 : Int) ≠ 5 by decide) (show (25 : Int) ≠ 6 by decide) (show (25 : Int) ≠ 8 by decide)]
      have hK : k.len = 2 := by rw [show arK 25 = 2 by decide] at hgk; omega
      exact typed_met 25 71 k.len nn s t u ln cl L A c mb cb c0 c1 c2 c3 k a env Ae ce w hn hsm hen henv henc henl hc hL hrl hN hLc rest hdrop rfl hkw hE hkall hebd (ent_of Tryz.func71 (by kernel_rfl) rfl) (by decide) (by simp [ruleL]) (fun W' tsm AV cV _ f3 f2 hV1 hka hru => by rw [hK] at f2 hV1 ⊢; exact rule_25 _ _ nn s t u ln cl tsm AV cV a W' f3 (by omega) (by omega) hka)
    · rw [tyT_else hE (show (26 : Int) ≠ 4 by decide) (show (26 : Int) ≠ 5 by decide) (show (26 : Int) ≠ 6 by decide) (show (26 : Int) ≠ 8 by decide)]
      have hK : k.len = 1 := by rw [show arK 26 = 1 by decide] at hgk; omega
      exact typed_met 26 72 k.len nn s t u ln cl L A c mb cb c0 c1 c2 c3 k a env Ae ce w hn hsm hen henv henc henl hc hL hrl hN hLc rest hdrop rfl hkw hE hkall hebd (ent_of Tryz.func72 (by kernel_rfl) rfl) (by decide) (by simp [ruleL]) (fun W' tsm AV cV _ f3 f2 hV1 hka hru => by rw [hK] at f2 hV1 ⊢; exact rule_26 _ _ nn s t u ln cl tsm AV cV a W' f3 (by omega) (by omega) hka)
    · rw [tyT_else hE (show (27 : Int) ≠ 4 by decide) (show (27 : Int) ≠ 5 by decide) (show (27 : Int) ≠ 6 by decide) (show (27 : Int) ≠ 8 by decide)]
      have hK : k.len = 1 := by rw [show arK 27 = 1 by decide] at hgk; omega
      exact typed_met 27 73 k.len nn s t u ln cl L A c mb cb c0 c1 c2 c3 k a env Ae ce w hn hsm hen henv henc henl hc hL hrl hN hLc rest hdrop rfl hkw hE hkall hebd (ent_of Tryz.func73 (by kernel_rfl) rfl) (by decide) (by simp [ruleL]) (fun W' tsm AV cV _ f3 f2 hV1 hka hru => by rw [hK] at f2 hV1 ⊢; exact rule_27 _ _ nn s t u ln cl tsm AV cV a W' f3 (by omega) (by omega) hka)
    · rw [tyT_else hE (show (28 : Int) ≠ 4 by decide) (show (28 : Int) ≠ 5 by decide) (show (28 : Int) ≠ 6 by decide) (show (28 : Int) ≠ 8 by decide)]
      have hK : k.len = 2 := by rw [show arK 28 = 2 by decide] at hgk; omega
      exact typed_met 28 74 k.len nn s t u ln cl L A c mb cb c0 c1 c2 c3 k a env Ae ce w hn hsm hen henv henc henl hc hL hrl hN hLc rest hdrop rfl hkw hE hkall hebd (ent_of Tryz.func74 (by kernel_rfl) rfl) (by decide) (by simp [ruleL]) (fun W' tsm AV cV _ f3 f2 hV1 hka hru => by rw [hK] at f2 hV1 ⊢; exact rule_28 _ _ nn s t u ln cl tsm AV cV a W' f3 (by omega) (by omega) hka)
    · rw [tyT_var hE rfl]
      have hk0 : k = .nil := Tf.len0 (by rw [show arK 4 = 0 by decide] at hgk; omega)
      exact typed_var k.len nn s t u ln cl L A c mb cb c0 c1 c2 c3 k a env Ae ce w hn hsm hen henv henc henl hc hL hrl hN hLc hE (by rw [hk0]; rfl)
    · rw [tyT_5 hE rfl, made_bind]
      obtain ⟨n1, k1, hk1⟩ := Tf.len1 (f := k) (by rw [show arK 5 = 1 by decide] at hgk; omega)
      have := typed_5 k.len nn s t u ln cl L A c mb cb c0 c1 c2 c3 k a env Ae ce w hn hsm hen henv henc henl hc hL hrl hN hLc rest n1 k1 hk1 hdrop hkw hE hkall hebd
      rwa [made_bind] at this
    · rw [tyT_6 hE rfl, made_bind]
      obtain ⟨n1, k1, hk1⟩ := Tf.len1 (f := k) (by rw [show arK 6 = 1 by decide] at hgk; omega)
      have := typed_6 k.len nn s t u ln cl L A c mb cb c0 c1 c2 c3 k a env Ae ce w hn hsm hen henv henc henl hc hL hrl hN hLc rest n1 k1 hk1 hdrop hkw hE hkall hebd
      rwa [made_bind] at this
    · rw [tyT_8 hE rfl]
      obtain ⟨n1, k1, m2, k2, hk1⟩ := Tf.len2 (f := k) (by rw [show arK 8 = 2 by decide] at hgk; omega)
      exact typed_8 k.len nn s t u ln cl L A c mb cb c0 c1 c2 c3 k a env Ae ce w hn hsm hen henv henc henl hc hL hrl hN hLc rest n1 m2 k1 k2 hk1 hdrop hkw hE hkall hebd
  · rw [tyT_bad hE]
    exact ((typed_bad kd k.len nn s t u ln cl L A c mb cb c0 c1 c2 c3 k a env Ae ce w hn hsm hen henv henc henl hc hL hrl hN hLc _ rfl hE)).mono fun e w' h => ⟨h.1, h.2⟩

/-- typed, at a whole tree. -/
theorem typed_any (L : List Tn) (A : Option Addr) (c mb cb c0 c1 c2 c3 : Nat) (hN : L.length ≤ 1000000) (hLc : L.length ≤ c) (hS : ∀ x ∈ L, x.small) (n : Tn) (k : Tf) : TypP L A c mb cb c0 c1 c2 c3 n k :=
  (Tf.all_of (typ_step L A c mb cb c0 c1 c2 c3 hN hLc hS) (.cons n k .nil)).1
end Go.Proofs.YtmagljnlfponaaaGreat.K

/- RtS -/
namespace Go.Proofs.YtmagljnlfponaaaGreat.R
open Go.RowKit Go.Proofs.YtmagljnlfponaaaGreat.B Go.Proofs.YtmagljnlfponaaaGreat.T Go.Proofs.YtmagljnlfponaaaGreat.K
set_option linter.unusedVariables false
set_option linter.unusedSimpArgs false

theorem ts1 {ts : List Ty} (h : ts.length = 1) : ∃ x, ts = [x] := by
  match ts, h with
  | [x], _ => exact ⟨x, rfl⟩
theorem ts2 {ts : List Ty} (h : ts.length = 2) : ∃ x y, ts = [x, y] := by
  match ts, h with
  | [x, y], _ => exact ⟨x, y, rfl⟩
theorem ts3 {ts : List Ty} (h : ts.length = 3) : ∃ x y z, ts = [x, y, z] := by
  match ts, h with
  | [x, y, z], _ => exact ⟨x, y, z, rfl⟩

set_option maxHeartbeats 4000000 in
theorem ty_step (L : List Tn) (A : Option Addr) (c wb sb : Nat) (hN : L.length ≤ 1000000) (hLc : L.length ≤ c) (hS : ∀ x ∈ L, x.small) (n : Tn) (k : Tf) (hkall : k.All (TyP L A c wb sb)) : TyP L A c wb sb n k := by
  intro a rest env Ae ce xs w hdrop hwf henv henc hebd he1 he2 hs
  have hn : L[a]? = some n := by rw [← List.head?_drop, hdrop]; rfl
  have hal : a < L.length := (List.getElem?_eq_some_iff.1 hn).1
  have hsm := hS n (List.mem_of_getElem? hn)
  have hg := goodN_iff.1 hwf.1
  have hkl := hwf.2.1
  have hkw := hwf.2.2.1
  have henl : env.length ≤ 100000 := by omega
  refine typed_of_one n k env _ w hs hal hN ?_
  obtain ⟨kd, kids, nn, s, t, u, ln, cl⟩ := n
  simp only at hkl hg
  subst hkl
  have hKL : k.len ≤ 1000000 := by
    have h1 := congrArg List.length hdrop
    simp only [List.length_drop, List.length_append, List.length_cons, Tf.list_len] at h1
    have h2 := Tf.len_le k
    omega
  by_cases hE : wordsE ⟨kd, (k.len : Int), nn, s, t, u, ln, cl⟩ env.length = 0
  · have hgk := hg.2.2
    rcases kinds hg.1 with rfl | rfl | rfl | rfl | rfl | rfl | rfl | rfl | rfl | rfl | rfl | rfl | rfl | rfl | rfl | rfl | rfl | rfl | rfl | rfl | rfl | rfl | rfl | rfl | rfl | rfl | rfl | rfl | rfl

    · obtain rfl : k = .nil := Tf.len0 (by rw [show arK 1 = 0 by decide] at hgk; omega)
      have h := one_1 _ nn s t u ln cl L A c wb sb xs .nil a env Ae ce w hn hsm he1 he2 henv henc henl hs hN hLc hE rfl
      rw [tyT_else hE (show (1 : Int) ≠ 4 by decide) (show (1 : Int) ≠ 5 by decide) (show (1 : Int) ≠ 6 by decide) (show (1 : Int) ≠ 8 by decide)]
      exact h
    · obtain rfl : k = .nil := Tf.len0 (by rw [show arK 2 = 0 by decide] at hgk; omega)
      have h := one_2 _ nn s t u ln cl L A c wb sb xs .nil a env Ae ce w hn hsm he1 he2 henv henc henl hs hN hLc hE rfl
      rw [tyT_else hE (show (2 : Int) ≠ 4 by decide) (show (2 : Int) ≠ 5 by decide) (show (2 : Int) ≠ 6 by decide) (show (2 : Int) ≠ 8 by decide)]
      exact h
    · obtain rfl : k = .nil := Tf.len0 (by rw [show arK 3 = 0 by decide] at hgk; omega)
      have h := one_3 _ nn s t u ln cl L A c wb sb xs .nil a env Ae ce w hn hsm he1 he2 henv henc henl hs hN hLc hE rfl
      rw [tyT_else hE (show (3 : Int) ≠ 4 by decide) (show (3 : Int) ≠ 5 by decide) (show (3 : Int) ≠ 6 by decide) (show (3 : Int) ≠ 8 by decide)]
      exact h
    · have h := one_30 _ nn s t u ln cl L A c wb sb xs k a env Ae ce w hn hsm he1 he2 henv henc henl hs hN hLc hE rest hdrop hwf hkall hebd
      rw [tyT_else hE (show (30 : Int) ≠ 4 by decide) (show (30 : Int) ≠ 5 by decide) (show (30 : Int) ≠ 6 by decide) (show (30 : Int) ≠ 8 by decide)]
      exact h
    · have h := one_kids 7 k.len nn s t u ln cl L A c wb sb xs k a env Ae ce w hn hsm he1 he2 henv henc henl hs hN hLc hE rest hdrop rfl hkw hkall hebd (by decide) (fun ts a1 xs Ac cc W h e hc hl ho => by
        have hl2 : ts.length = 2 := by rw [show arK 7 = 2 by decide] at hgk; omega
        rw [← hl, hl2]
        obtain ⟨x, y, rfl⟩ := ts2 hl2
        exact rule_7 _ nn s t u ln cl L A c wb sb xs a a1 Ac cc x y W h e hc (ho x (by simp)) (ho y (by simp)))
      rw [tyT_else hE (show (7 : Int) ≠ 4 by decide) (show (7 : Int) ≠ 5 by decide) (show (7 : Int) ≠ 6 by decide) (show (7 : Int) ≠ 8 by decide)]
      exact h
    · have h := one_kids 9 k.len nn s t u ln cl L A c wb sb xs k a env Ae ce w hn hsm he1 he2 henv henc henl hs hN hLc hE rest hdrop rfl hkw hkall hebd (by decide) (fun ts a1 xs Ac cc W h e hc hl ho => by
        have hl2 : ts.length = 3 := by rw [show arK 9 = 3 by decide] at hgk; omega
        rw [← hl, hl2]
        obtain ⟨x, y, z, rfl⟩ := ts3 hl2
        exact rule_9 _ nn s t u ln cl L A c wb sb xs a a1 Ac cc x y z W h e hc (ho x (by simp)) (ho y (by simp)) (ho z (by simp)))
      rw [tyT_else hE (show (9 : Int) ≠ 4 by decide) (show (9 : Int) ≠ 5 by decide) (show (9 : Int) ≠ 6 by decide) (show (9 : Int) ≠ 8 by decide)]
      exact h
    · have h := one_kids 10 k.len nn s t u ln cl L A c wb sb xs k a env Ae ce w hn hsm he1 he2 henv henc henl hs hN hLc hE rest hdrop rfl hkw hkall hebd (by decide) (fun ts a1 xs Ac cc W h e hc hl ho => by
        have hl2 : ts.length = 2 := by rw [show arK 10 = 2 by decide] at hgk; omega
        rw [← hl, hl2]
        obtain ⟨x, y, rfl⟩ := ts2 hl2
        exact rule_10 _ nn s t u ln cl L A c wb sb xs a a1 Ac cc x y W h e hc (ho x (by simp)) (ho y (by simp)))
      rw [tyT_else hE (show (10 : Int) ≠ 4 by decide) (show (10 : Int) ≠ 5 by decide) (show (10 : Int) ≠ 6 by decide) (show (10 : Int) ≠ 8 by decide)]
      exact h
    · have h := one_kids 11 k.len nn s t u ln cl L A c wb sb xs k a env Ae ce w hn hsm he1 he2 henv henc henl hs hN hLc hE rest hdrop rfl hkw hkall hebd (by decide) (fun ts a1 xs Ac cc W h e hc hl ho => by
        have hl2 : ts.length = 2 := by rw [show arK 11 = 2 by decide] at hgk; omega
        rw [← hl, hl2]
        obtain ⟨x, y, rfl⟩ := ts2 hl2
        exact rule_11 _ nn s t u ln cl L A c wb sb xs a a1 Ac cc x y W h e hc (ho x (by simp)) (ho y (by simp)))
      rw [tyT_else hE (show (11 : Int) ≠ 4 by decide) (show (11 : Int) ≠ 5 by decide) (show (11 : Int) ≠ 6 by decide) (show (11 : Int) ≠ 8 by decide)]
      exact h
    · have h := one_kids 12 k.len nn s t u ln cl L A c wb sb xs k a env Ae ce w hn hsm he1 he2 henv henc henl hs hN hLc hE rest hdrop rfl hkw hkall hebd (by decide) (fun ts a1 xs Ac cc W h e hc hl ho => by
        have hl2 : ts.length = 2 := by rw [show arK 12 = 2 by decide] at hgk; omega
        rw [← hl, hl2]
        obtain ⟨x, y, rfl⟩ := ts2 hl2
        exact rule_12 _ nn s t u ln cl L A c wb sb xs a a1 Ac cc x y W h e hc (ho x (by simp)) (ho y (by simp)))
      rw [tyT_else hE (show (12 : Int) ≠ 4 by decide) (show (12 : Int) ≠ 5 by decide) (show (12 : Int) ≠ 6 by decide) (show (12 : Int) ≠ 8 by decide)]
      exact h
    · have h := one_kids 16 k.len nn s t u ln cl L A c wb sb xs k a env Ae ce w hn hsm he1 he2 henv henc henl hs hN hLc hE rest hdrop rfl hkw hkall hebd (by decide) (fun ts a1 xs Ac cc W h e hc hl ho => by
        have hl2 : ts.length = 1 := by rw [show arK 16 = 1 by decide] at hgk; omega
        rw [← hl, hl2]
        obtain ⟨x, rfl⟩ := ts1 hl2
        exact rule_16 _ nn s t u ln cl L A c wb sb xs a a1 Ac cc x W h e hc (ho x (by simp)))
      rw [tyT_else hE (show (16 : Int) ≠ 4 by decide) (show (16 : Int) ≠ 5 by decide) (show (16 : Int) ≠ 6 by decide) (show (16 : Int) ≠ 8 by decide)]
      exact h
    · have h := one_kids 14 k.len nn s t u ln cl L A c wb sb xs k a env Ae ce w hn hsm he1 he2 henv henc henl hs hN hLc hE rest hdrop rfl hkw hkall hebd (by decide) (fun ts a1 xs Ac cc W h e hc hl ho => by
        have hl2 : ts.length = 2 := by rw [show arK 14 = 2 by decide] at hgk; omega
        rw [← hl, hl2]
        obtain ⟨x, y, rfl⟩ := ts2 hl2
        exact rule_14 _ nn s t u ln cl L A c wb sb xs a a1 Ac cc x y W h e hc (ho x (by simp)) (ho y (by simp)))
      rw [tyT_else hE (show (14 : Int) ≠ 4 by decide) (show (14 : Int) ≠ 5 by decide) (show (14 : Int) ≠ 6 by decide) (show (14 : Int) ≠ 8 by decide)]
      exact h
    · have h := one_kids 15 k.len nn s t u ln cl L A c wb sb xs k a env Ae ce w hn hsm he1 he2 henv henc henl hs hN hLc hE rest hdrop rfl hkw hkall hebd (by decide) (fun ts a1 xs Ac cc W h e hc hl ho => by
        have hl2 : ts.length = 2 := by rw [show arK 15 = 2 by decide] at hgk; omega
        rw [← hl, hl2]
        obtain ⟨x, y, rfl⟩ := ts2 hl2
        exact rule_15 _ nn s t u ln cl L A c wb sb xs a a1 Ac cc x y W h e hc (ho x (by simp)) (ho y (by simp)))
      rw [tyT_else hE (show (15 : Int) ≠ 4 by decide) (show (15 : Int) ≠ 5 by decide) (show (15 : Int) ≠ 6 by decide) (show (15 : Int) ≠ 8 by decide)]
      exact h
    · have h := one_kids 13 k.len nn s t u ln cl L A c wb sb xs k a env Ae ce w hn hsm he1 he2 henv henc henl hs hN hLc hE rest hdrop rfl hkw hkall hebd (by decide) (fun ts a1 xs Ac cc W h e hc hl ho => by
        have hl2 : ts.length = 2 := by rw [show arK 13 = 2 by decide] at hgk; omega
        rw [← hl, hl2]
        obtain ⟨x, y, rfl⟩ := ts2 hl2
        exact rule_13 _ nn s t u ln cl L A c wb sb xs a a1 Ac cc x y W h e hc (ho x (by simp)) (ho y (by simp)))
      rw [tyT_else hE (show (13 : Int) ≠ 4 by decide) (show (13 : Int) ≠ 5 by decide) (show (13 : Int) ≠ 6 by decide) (show (13 : Int) ≠ 8 by decide)]
      exact h
    · have h := one_kids 17 k.len nn s t u ln cl L A c wb sb xs k a env Ae ce w hn hsm he1 he2 henv henc henl hs hN hLc hE rest hdrop rfl hkw hkall hebd (by decide) (fun ts a1 xs Ac cc W h e hc hl ho => by
        have hl2 : ts.length = 1 := by rw [show arK 17 = 1 by decide] at hgk; omega
        rw [← hl, hl2]
        obtain ⟨x, rfl⟩ := ts1 hl2
        exact rule_17 _ nn s t u ln cl L A c wb sb xs a a1 Ac cc x W h e hc (ho x (by simp)))
      rw [tyT_else hE (show (17 : Int) ≠ 4 by decide) (show (17 : Int) ≠ 5 by decide) (show (17 : Int) ≠ 6 by decide) (show (17 : Int) ≠ 8 by decide)]
      exact h
    · have h := one_kids 18 k.len nn s t u ln cl L A c wb sb xs k a env Ae ce w hn hsm he1 he2 henv henc henl hs hN hLc hE rest hdrop rfl hkw hkall hebd (by decide) (fun ts a1 xs Ac cc W h e hc hl ho => by
        have hl2 : ts.length = 2 := by rw [show arK 18 = 2 by decide] at hgk; omega
        rw [← hl, hl2]
        obtain ⟨x, y, rfl⟩ := ts2 hl2
        exact rule_18 _ nn s t u ln cl L A c wb sb xs a a1 Ac cc x y W h e hc (ho x (by simp)) (ho y (by simp)))
      rw [tyT_else hE (show (18 : Int) ≠ 4 by decide) (show (18 : Int) ≠ 5 by decide) (show (18 : Int) ≠ 6 by decide) (show (18 : Int) ≠ 8 by decide)]
      exact h
    · have h := one_kids 19 k.len nn s t u ln cl L A c wb sb xs k a env Ae ce w hn hsm he1 he2 henv henc henl hs hN hLc hE rest hdrop rfl hkw hkall hebd (by decide) (fun ts a1 xs Ac cc W h e hc hl ho => by
        have hl2 : ts.length = 1 := by rw [show arK 19 = 1 by decide] at hgk; omega
        rw [← hl, hl2]
        obtain ⟨x, rfl⟩ := ts1 hl2
        exact rule_19 _ nn s t u ln cl L A c wb sb xs a a1 Ac cc x W h e hc (ho x (by simp)))
      rw [tyT_else hE (show (19 : Int) ≠ 4 by decide) (show (19 : Int) ≠ 5 by decide) (show (19 : Int) ≠ 6 by decide) (show (19 : Int) ≠ 8 by decide)]
      exact h
    · have h := one_kids 20 k.len nn s t u ln cl L A c wb sb xs k a env Ae ce w hn hsm he1 he2 henv henc henl hs hN hLc hE rest hdrop rfl hkw hkall hebd (by decide) (fun ts a1 xs Ac cc W h e hc hl ho => by
        have hl2 : ts.length = 1 := by rw [show arK 20 = 1 by decide] at hgk; omega
        rw [← hl, hl2]
        obtain ⟨x, rfl⟩ := ts1 hl2
        exact rule_20 _ nn s t u ln cl L A c wb sb xs a a1 Ac cc x W h e hc (ho x (by simp)))
      rw [tyT_else hE (show (20 : Int) ≠ 4 by decide) (show (20 : Int) ≠ 5 by decide) (show (20 : Int) ≠ 6 by decide) (show (20 : Int) ≠ 8 by decide)]
      exact h
    · have h := one_kids 21 k.len nn s t u ln cl L A c wb sb xs k a env Ae ce w hn hsm he1 he2 henv henc henl hs hN hLc hE rest hdrop rfl hkw hkall hebd (by decide) (fun ts a1 xs Ac cc W h e hc hl ho => by rw [← hl]; exact rule_21 _ nn s t u ln cl L A c wb sb xs a a1 Ac cc ts W h e hc ho (listW hE) (by omega))
      rw [tyT_else hE (show (21 : Int) ≠ 4 by decide) (show (21 : Int) ≠ 5 by decide) (show (21 : Int) ≠ 6 by decide) (show (21 : Int) ≠ 8 by decide)]
      exact h
    · have h := one_kids 22 k.len nn s t u ln cl L A c wb sb xs k a env Ae ce w hn hsm he1 he2 henv henc henl hs hN hLc hE rest hdrop rfl hkw hkall hebd (by decide) (fun ts a1 xs Ac cc W h e hc hl ho => by
        have hl2 : ts.length = 1 := by rw [show arK 22 = 1 by decide] at hgk; omega
        rw [← hl, hl2]
        obtain ⟨x, rfl⟩ := ts1 hl2
        exact rule_22 _ nn s t u ln cl L A c wb sb xs a a1 Ac cc x W h e hc (ho x (by simp)))
      rw [tyT_else hE (show (22 : Int) ≠ 4 by decide) (show (22 : Int) ≠ 5 by decide) (show (22 : Int) ≠ 6 by decide) (show (22 : Int) ≠ 8 by decide)]
      exact h
    · have h := one_kids 23 k.len nn s t u ln cl L A c wb sb xs k a env Ae ce w hn hsm he1 he2 henv henc henl hs hN hLc hE rest hdrop rfl hkw hkall hebd (by decide) (fun ts a1 xs Ac cc W h e hc hl ho => by
        have hl2 : ts.length = 1 := by rw [show arK 23 = 1 by decide] at hgk; omega
        rw [← hl, hl2]
        obtain ⟨x, rfl⟩ := ts1 hl2
        exact rule_23 _ nn s t u ln cl L A c wb sb xs a a1 Ac cc x W h e hc (ho x (by simp)))
      rw [tyT_else hE (show (23 : Int) ≠ 4 by decide) (show (23 : Int) ≠ 5 by decide) (show (23 : Int) ≠ 6 by decide) (show (23 : Int) ≠ 8 by decide)]
      exact h
    · have h := one_kids 24 k.len nn s t u ln cl L A c wb sb xs k a env Ae ce w hn hsm he1 he2 henv henc henl hs hN hLc hE rest hdrop rfl hkw hkall hebd (by decide) (fun ts a1 xs Ac cc W h e hc hl ho => by
        have hl2 : ts.length = 1 := by rw [show arK 24 = 1 by decide] at hgk; omega
        rw [← hl, hl2]
        obtain ⟨x, rfl⟩ := ts1 hl2
        exact rule_24 _ nn s t u ln cl L A c wb sb xs a a1 Ac cc x W h e hc (ho x (by simp)))
      rw [tyT_else hE (show (24 : Int) ≠ 4 by decide) (show (24 : Int) ≠ 5 by decide) (show (24 : Int) ≠ 6 by decide) (show (24 : Int) ≠ 8 by decide)]
      exact h
    · have h := one_kids 25 k.len nn s t u ln cl L A c wb sb xs k a env Ae ce w hn hsm he1 he2 henv henc henl hs hN hLc hE rest hdrop rfl hkw hkall hebd (by decide) (fun ts a1 xs Ac cc W h e hc hl ho => by
        have hl2 : ts.length = 2 := by rw [show arK 25 = 2 by decide] at hgk; omega
        rw [← hl, hl2]
        obtain ⟨x, y, rfl⟩ := ts2 hl2
        exact rule_25 _ nn s t u ln cl L A c wb sb xs a a1 Ac cc x y W h e hc (ho x (by simp)) (ho y (by simp)))
      rw [tyT_else hE (show (25 : Int) ≠ 4 by decide) (show (25 : Int) ≠ 5 by decide) (show (25 : Int) ≠ 6 by decide) (show (25 : Int) ≠ 8 by decide)]
      exact h
    · have h := one_kids 26 k.len nn s t u ln cl L A c wb sb xs k a env Ae ce w hn hsm he1 he2 henv henc henl hs hN hLc hE rest hdrop rfl hkw hkall hebd (by decide) (fun ts a1 xs Ac cc W h e hc hl ho => by
        have hl2 : ts.length = 1 := by rw [show arK 26 = 1 by decide] at hgk; omega
        rw [← hl, hl2]
        obtain ⟨x, rfl⟩ := ts1 hl2
        exact rule_26 _ nn s t u ln cl L A c wb sb xs a a1 Ac cc x W h e hc (ho x (by simp)))
      rw [tyT_else hE (show (26 : Int) ≠ 4 by decide) (show (26 : Int) ≠ 5 by decide) (show (26 : Int) ≠ 6 by decide) (show (26 : Int) ≠ 8 by decide)]
      exact h
    · have h := one_kids 27 k.len nn s t u ln cl L A c wb sb xs k a env Ae ce w hn hsm he1 he2 henv henc henl hs hN hLc hE rest hdrop rfl hkw hkall hebd (by decide) (fun ts a1 xs Ac cc W h e hc hl ho => by
        have hl2 : ts.length = 1 := by rw [show arK 27 = 1 by decide] at hgk; omega
        rw [← hl, hl2]
        obtain ⟨x, rfl⟩ := ts1 hl2
        exact rule_27 _ nn s t u ln cl L A c wb sb xs a a1 Ac cc x W h e hc (ho x (by simp)))
      rw [tyT_else hE (show (27 : Int) ≠ 4 by decide) (show (27 : Int) ≠ 5 by decide) (show (27 : Int) ≠ 6 by decide) (show (27 : Int) ≠ 8 by decide)]
      exact h
    · have h := one_kids 28 k.len nn s t u ln cl L A c wb sb xs k a env Ae ce w hn hsm he1 he2 henv henc henl hs hN hLc hE rest hdrop rfl hkw hkall hebd (by decide) (fun ts a1 xs Ac cc W h e hc hl ho => by
        have hl2 : ts.length = 2 := by rw [show arK 28 = 2 by decide] at hgk; omega
        rw [← hl, hl2]
        obtain ⟨x, y, rfl⟩ := ts2 hl2
        exact rule_28 _ nn s t u ln cl L A c wb sb xs a a1 Ac cc x y W h e hc (ho x (by simp)) (ho y (by simp)))
      rw [tyT_else hE (show (28 : Int) ≠ 4 by decide) (show (28 : Int) ≠ 5 by decide) (show (28 : Int) ≠ 6 by decide) (show (28 : Int) ≠ 8 by decide)]
      exact h
    · obtain rfl : k = .nil := Tf.len0 (by rw [show arK 4 = 0 by decide] at hgk; omega)
      have h := one_4 _ nn s t u ln cl L A c wb sb xs .nil a env Ae ce w hn hsm he1 he2 henv henc henl hs hN hLc hE rfl
      rw [tyT_var hE rfl]
      exact h
    · have hb := fnW (n := ⟨5, (k.len : Int), nn, s, t, u, ln, cl⟩) (.inl rfl) hE
      have h := one_5 _ nn s t u ln cl L A c wb sb xs k a env Ae ce w hn hsm he1 he2 henv henc henl hs hN hLc hE hb.1 hb.2 rest hdrop hwf hkall hebd
      rw [tyT_5 hE rfl]
      exact h
    · have hb := fnW (n := ⟨6, (k.len : Int), nn, s, t, u, ln, cl⟩) (.inr rfl) hE
      have h := one_6 _ nn s t u ln cl L A c wb sb xs k a env Ae ce w hn hsm he1 he2 henv henc henl hs hN hLc hE hb.1 hb.2 rest hdrop hwf hkall hebd
      rw [tyT_6 hE rfl, made_bind]
      rw [made_bind] at h; exact h
    · have h := one_8 _ nn s t u ln cl L A c wb sb xs k a env Ae ce w hn hsm he1 he2 henv henc henl hs hN hLc hE rest hdrop hwf hkall hebd
      rw [tyT_8 hE rfl]
      exact h
  · rw [tyT_bad hE]
    exact one_bad kd k.len nn s t u ln cl L A c wb sb xs k a env Ae ce w hn hsm he1 he2 henv henc henl hs hN hLc _ rfl hE _

/-- typed, at a whole tree. -/
theorem typedR_any (L : List Tn) (A : Option Addr) (c wb sb : Nat) (hN : L.length ≤ 1000000) (hLc : L.length ≤ c) (hS : ∀ x ∈ L, x.small) (n : Tn) (k : Tf) : TyP L A c wb sb n k :=
  (Tf.all_of (ty_step L A c wb sb hN hLc hS) (.cons n k .nil)).1
end Go.Proofs.YtmagljnlfponaaaGreat.R
