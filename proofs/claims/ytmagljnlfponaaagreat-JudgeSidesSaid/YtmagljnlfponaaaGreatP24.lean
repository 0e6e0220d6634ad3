/- Parts of this claim: CkQ, CkR, RelU. -/
import Derived.Defers
import Derived.Recover
import Derived.Test.YtmagljnlfponaaaGreatP23
import Derived.Test.YtmagljnlfponaaaGreatP05
import Derived.Test.YtmagljnlfponaaaGreatP00
set_option linter.unusedVariables false
set_option linter.unusedSimpArgs false
/- CkQ -/
namespace Go.Proofs.YtmagljnlfponaaaGreat.K
open Go.RowKit Go.Proofs.YtmagljnlfponaaaGreat.B Go.Proofs.YtmagljnlfponaaaGreat.T
set_option linter.unusedVariables false
set_option linter.unusedSimpArgs false

theorem wp_opaque {P : Program} {c : Code} {Q : Exit → Act → World → Prop} {a : Act} {w : World} (h : ∀ Q' : Exit → Act → World → Prop, (∀ e a w, Q e a w → Q' e a w) → c.wp P Q' a w) : c.wp P Q a w := h Q fun _ _ _ h => h

theorem But.set1 {C : Nat → Prop} {w w' : World} (h : But C w w') {p : Addr} (hp : C p.block) (u : Value) : But C w (w'.setCell p u) :=
  ⟨h.os, h.tape, h.output, by rw [World.size_setCell]; exact h.size, fun k hk hc => (Below.heap_setCell w' p u k (fun e => hc (e ▸ hp))).trans (h.block k hk hc)⟩
theorem But.set3 {g : Nat} {w w' : World} (h : But (fun k => k = g ∨ k = g + 1 ∨ k = g + 2) w w') (u v x : Value) : But (fun k => k = g ∨ k = g + 1 ∨ k = g + 2) w (((w'.setCell ⟨g, 0, none⟩ u).setCell ⟨g + 1, 0, none⟩ v).setCell ⟨g + 2, 0, none⟩ x) :=
  But.set1 (But.set1 (But.set1 h (.inl rfl) u) (.inr (.inl rfl)) v) (.inr (.inr rfl)) x

set_option maxRecDepth 100000 in
set_option maxHeartbeats 4000000 in
theorem catch_flaw (g : Nat) (E x : Int) (w : World) (v0 v1 v2 : Value) (t0 t1 t2 : TypeId) (h0 : Blk w g t0 #[v0]) (h1 : Blk w (g + 1) t1 #[v1]) (h2 : Blk w (g + 2) t2 #[v2]) :
    CallsD Tryz.prog 50 #[.pointer (some ⟨g, 0, none⟩), .pointer (some ⟨g + 1, 0, none⟩), .pointer (some ⟨g + 2, 0, none⟩)] (.panicking [{ v := .iface 111 (.agg #[.int .i64 E, .int .i64 x]), recovered := false }]) w fun e u' w' =>
      e = .returned (.tuple #[]) ∧ u' = .panicking [{ v := .iface 111 (.agg #[.int .i64 E, .int .i64 x]), recovered := true }] ∧ But (fun k => k = g ∨ k = g + 1 ∨ k = g + 2) w w' ∧
      w'.cell? ⟨g, 0, none⟩ = some (.string ⟨#[]⟩) ∧ w'.cell? ⟨g + 1, 0, none⟩ = some (.int .i64 E) ∧ w'.cell? ⟨g + 2, 0, none⟩ = some (.int .i64 x) := by
  have hta : ∀ W, (Instr.typeAssert (.iface 111 (.agg #[.int .i64 E, .int .i64 x])) 20 111 true).run Tryz.prog W = .ok (.tuple #[.agg #[.int .i64 E, .int .i64 x], .bool true]) W := fun _ => rfl
  refine callsD_of_wpS Tryz.func50 rfl fun c₀ cs hu => ?_
  simp only [Tryz.ntmps50, List.size_toArray, List.length_cons, List.length_nil, Nat.reduceAdd, Nat.reduceSub, Array.replicate_succ, Array.replicate_zero, List.push_toArray, List.append_toArray, List.nil_append, List.cons_append]
  apply wpS_seq
  apply wpS_region
  simp [wpOpsS, go_sem, recoverD, hu, Tryz.ntmps50, Exit.thenS]
  refine wpS_of_wp ?_
  cases c₀
  simp only at hu
  subst hu
  have HG := Lib.hid (And.intro h0 (And.intro h1 h2))
  clear h0 h1 h2
  refine wp_opaque fun Q hQ => ?_
  have HQ := Lib.hid hQ
  clear hQ
  go_wp2_with fail
  have hbt : But (fun k => k = g ∨ k = g + 1 ∨ k = g + 2) w (w.alloc (.cells #[.int .i64 E, .int .i64 x] 111)) := (But.refl _ _).alloc _
  have b3 : Blk (w.alloc (.cells #[.int .i64 E, .int .i64 x] 111)) w.heap.size 111 #[.int .i64 E, .int .i64 x] := Blk.new _ _ _
  have b0 : Blk (w.alloc (.cells #[.int .i64 E, .int .i64 x] 111)) _ _ _ := HG.out.1.alloc _
  have b1 : Blk (w.alloc (.cells #[.int .i64 E, .int .i64 x] 111)) _ _ _ := HG.out.2.1.alloc _
  have b2 : Blk (w.alloc (.cells #[.int .i64 E, .int .i64 x] 111)) _ _ _ := HG.out.2.2.alloc _
  generalize w.alloc (.cells #[.int .i64 E, .int .i64 x] 111) = W1 at hbt b3 b0 b1 b2 ⊢
  have hne : g + 2 < w.heap.size := HG.out.2.2.lt
  generalize w.heap.size = b at b3 hne ⊢
  have m0 := b0.cell 0
  have m1 := b1.cell 0
  have m2 := b2.cell 0
  have m3 := b3.cell 0
  have m4 := b3.cell 1
  have f0 := b0.frozen 0
  have f1 := b1.frozen 0
  have f2 := b2.frozen 0
  have q0 : ¬ b = g := by omega
  have q1 : ¬ b = g + 1 := by omega
  have q2 : ¬ b = g + 2 := by omega
  have q0' : ¬ g = b := by omega
  have q1' : ¬ g + 1 = b := by omega
  have q2' : ¬ g + 2 = b := by omega
  clear hne
  have HB := Lib.hid (And.intro b0 (And.intro b1 (And.intro b2 hbt)))
  clear b0 b1 b2 b3 hbt
  simp only [List.getElem?_toArray, List.getElem?_cons_zero, List.getElem?_cons_succ] at m0 m1 m2 m3 m4
  go_region
  obtain ⟨b0, b1, b2, hbt⟩ := HB.out
  refine HQ.out _ _ _ ⟨rfl, _, rfl, .tuple #[], results_none rfl _ _ _, rfl, rfl, ?_, ?_⟩
  · exact (But.set3 hbt (.string ⟨#[]⟩) (.int .i64 E) (.int .i64 x)).drewN 1
  · have k0 := ((b0.set_ 0 (.string ⟨#[]⟩)).far (p := ⟨g + 1, 0, none⟩) (by simp) (.int .i64 E)).far (p := ⟨g + 2, 0, none⟩) (by simp) (.int .i64 x)
    have k1 := ((b1.far (p := ⟨g, 0, none⟩) (by simp) (.string ⟨#[]⟩)).set_ 0 (.int .i64 E)).far (p := ⟨g + 2, 0, none⟩) (by simp) (.int .i64 x)
    have k2 := ((b2.far (p := ⟨g, 0, none⟩) (by simp) (.string ⟨#[]⟩)).far (p := ⟨g + 1, 0, none⟩) (by simp) (.int .i64 E)).set_ 0 (.int .i64 x)
    exact ⟨(k0.drew.cell 0).trans rfl, (k1.drew.cell 0).trans rfl, (k2.drew.cell 0).trans rfl⟩

set_option maxRecDepth 100000 in
set_option maxHeartbeats 4000000 in
theorem catch_none (p0 p1 p2 : Addr) (w : World) :
    CallsD Tryz.prog 50 #[.pointer (some p0), .pointer (some p1), .pointer (some p2)] .returning w fun e u' w' =>
      e = .returned (.tuple #[]) ∧ u' = .returning ∧ Below w.heap.size w w' := by
  have hta : ∀ W, (Instr.typeAssert .nilIface 20 111 true).run Tryz.prog W = .ok (.tuple #[.agg #[.int .i64 0, .int .i64 0], .bool false]) W := fun _ => rfl
  refine callsD_of_wpS Tryz.func50 rfl fun c₀ cs hu => ?_
  simp only [Tryz.ntmps50, List.size_toArray, List.length_cons, List.length_nil, Nat.reduceAdd, Nat.reduceSub, Array.replicate_succ, Array.replicate_zero, List.push_toArray, List.append_toArray, List.nil_append, List.cons_append]
  apply wpS_seq
  apply wpS_region
  simp [wpOpsS, go_sem, recoverD, hu, Tryz.ntmps50, Exit.thenS]
  refine wpS_of_wp ?_
  cases c₀
  simp only at hu
  subst hu
  refine wp_opaque fun Q hQ => ?_
  have HQ := Lib.hid hQ
  clear hQ
  go_wp2_with fail
  refine HQ.out _ _ _ ⟨rfl, _, rfl, .tuple #[], results_none rfl _ _ _, rfl, rfl, ?_⟩
  exact Below.alloc (Below.refl _ _) (Nat.le_refl _) _
end Go.Proofs.YtmagljnlfponaaaGreat.K

/- CkR -/
namespace Go.Proofs.YtmagljnlfponaaaGreat.K
open Go.RowKit Go.Proofs.YtmagljnlfponaaaGreat.B Go.Proofs.YtmagljnlfponaaaGreat.T
set_option linter.unusedVariables false
set_option linter.unusedSimpArgs false

theorem LT.fresh {w : World} {cb cb2 : Nat} {A : Option Addr} {L : List Tn} (h : LT w cb A L) (hc : w.heap.size ≤ cb2) : LT w cb2 A L := by
  rcases h with h | ⟨b, o, h1, h2, h3, h4⟩
  · exact .inl h
  · exact .inr ⟨b, o, h1, by omega, h3, h4⟩
theorem LT.below {w w' : World} {cb : Nat} {A : Option Addr} {L : List Tn} (h : LT w cb A L) (hb : Below w.heap.size w w') : LT w' cb A L := h.bt (Bt.below hb)
/-- What Check answers. -/
def chkV : Rs Ty → Value
  | .ok t => .tuple #[.string (str t), .int .i64 0, .int .i64 0]
  | .bad E x => .tuple #[.string ⟨#[]⟩, .int .i64 E, .int .i64 (x : Int)]

set_option maxRecDepth 100000 in
set_option maxHeartbeats 4000000 in
theorem Check_long (L : List Tn) (A : Option Addr) (c : Nat) (w : World) (hl : 16384 < L.length) (hN : L.length ≤ 1000000) :
    Calls Tryz.prog 38 #[.slice A L.length c] w fun e w' => e = .returned (chkV (.bad 17 0)) ∧ Below w.heap.size w w' := by
  have hl2 : (16384 : Int) < (L.length : Int) := by omega
  generalize L.length = N at *
  go_enter_defers Tryz.func38, Tryz.ntmps38
  go_wp2_with fail
  have hb := ((Below.refl w.heap.size w).alloc (Nat.le_refl _) (.cells #[.string ⟨#[]⟩] 9)).alloc (by simp) (.cells #[.int .i64 17] 30) |>.alloc (by simp only [World.size_alloc]; omega) (.cells #[.int .i64 0] 3)
  have HB := Lib.hid hb
  clear hb
  simp [bodyPostD, Leaves, results, Tryz.results38, go_sem, chkV]
  exact HB.out

theorem chk_short {L : List Tn} (h : L.length ≤ 16384) : chk L = (shq 1024 L 0).then fun p => if p.2 = L.length then tyT (treeN L).1 (treeN L).2 [] 0 else .bad 18 p.2 := by
  unfold chk; rw [if_neg (by omega)]
theorem shq_whole {L : List Tn} {p : List Tn × Nat} (h : shq 1024 L 0 = .ok p) (hp : p.2 = L.length) : ∃ n k, Tf.wf (.cons n k .nil) ∧ k.high + 1 ≤ 1024 ∧ L = n :: (k.list ++ []) ∧ (treeN L).1 = n ∧ (treeN L).2 = k := by
  obtain ⟨r, a⟩ := p
  obtain ⟨n, k, hw, hh, rfl, rfl⟩ := shq_tree _ _ _ _ _ h
  simp only [List.length_cons, List.length_append, Tf.list_len] at hp
  obtain rfl : r = [] := List.eq_nil_of_length_eq_zero (by omega)
  have ht := treeN_eq hw
  rw [List.append_nil]
  exact ⟨n, k, hw, hh, by rw [List.append_nil], by rw [ht], by rw [ht]⟩
theorem shq_at {L : List Tn} {p : List Tn × Nat} (h : shq 1024 L 0 = .ok p) : p.2 ≤ L.length := by
  obtain ⟨r, a⟩ := p
  obtain ⟨n, k, hw, hh, rfl, rfl⟩ := shq_tree _ _ _ _ _ h
  simp only [List.length_cons, List.length_append, Tf.list_len]
  omega
/-- The way out behind a panic: the deferred closure lays the error. -/
theorem leave_bad {g : Nat} {E x : Int} {w : World} {v0 v1 v2 : Value} {t0 t1 t2 : TypeId} {tmps : Array Value} {R : Ending → World → Prop} (b0 : Blk w g t0 #[v0]) (b1 : Blk w (g + 1) t1 #[v1]) (b2 : Blk w (g + 2) t2 #[v2])
    (ht : ∀ (w' : World) (s e n : Value), w'.cell? ⟨g, 0, none⟩ = some s → w'.cell? ⟨g + 1, 0, none⟩ = some e → w'.cell? ⟨g + 2, 0, none⟩ = some n → (results Tryz.f38 tmps).run Tryz.prog w' = .ok (.tuple #[s, e, n]) w')
    (hR : ∀ w', But (fun k => k = g ∨ k = g + 1 ∨ k = g + 2) w w' → R (.returned (.tuple #[.string ⟨#[]⟩, .int .i64 E, .int .i64 x])) w') :
    Leaves Tryz.prog Tryz.f38 tmps R [{ target := .fn (.func 50) #[.pointer (some ⟨g, 0, none⟩), .pointer (some ⟨g + 1, 0, none⟩), .pointer (some ⟨g + 2, 0, none⟩)], args := #[] }] (.panicking [{ v := .iface 111 (.agg #[.int .i64 E, .int .i64 x]), recovered := false }]) w := by
  refine leaves_cons (f := 50) (args := #[.pointer (some ⟨g, 0, none⟩), .pointer (some ⟨g + 1, 0, none⟩), .pointer (some ⟨g + 2, 0, none⟩)]) (by simp) (by simp [go_sem]) ?_
  refine (catch_flaw g E x w v0 v1 v2 t0 t1 t2 b0 b1 b2).mono ?_
  rintro e u' w' ⟨rfl, rfl, hb, h0, h1, h2⟩
  exact ⟨_, ht w' _ _ _ h0 h1 h2, hR w' hb⟩
/-- The way out where nothing panicked. -/
theorem leave_good {g : Nat} {w : World} {s e n : Value} {t0 t1 t2 : TypeId} {tmps : Array Value} {R : Ending → World → Prop} (b0 : Blk w g t0 #[s]) (b1 : Blk w (g + 1) t1 #[e]) (b2 : Blk w (g + 2) t2 #[n])
    (ht : ∀ (w' : World) (s e n : Value), w'.cell? ⟨g, 0, none⟩ = some s → w'.cell? ⟨g + 1, 0, none⟩ = some e → w'.cell? ⟨g + 2, 0, none⟩ = some n → (results Tryz.f38 tmps).run Tryz.prog w' = .ok (.tuple #[s, e, n]) w')
    (hR : ∀ w', Below w.heap.size w w' → R (.returned (.tuple #[s, e, n])) w') :
    Leaves Tryz.prog Tryz.f38 tmps R [{ target := .fn (.func 50) #[.pointer (some ⟨g, 0, none⟩), .pointer (some ⟨g + 1, 0, none⟩), .pointer (some ⟨g + 2, 0, none⟩)], args := #[] }] .returning w := by
  refine leaves_cons (f := 50) (args := #[.pointer (some ⟨g, 0, none⟩), .pointer (some ⟨g + 1, 0, none⟩), .pointer (some ⟨g + 2, 0, none⟩)]) (by simp) (by simp [go_sem]) ?_
  refine (catch_none _ _ _ w).mono ?_
  rintro e' u' w' ⟨rfl, rfl, hb⟩
  exact ⟨_, ht w' _ _ _ (((b0.below hb b0.lt).cell 0).trans rfl) (((b1.below hb b1.lt).cell 0).trans rfl) (((b2.below hb b2.lt).cell 0).trans rfl), hR w' hb⟩

theorem leaves_tmps {P : Program} {fn : Func} {t t' : Array Value} {R : Ending → World → Prop} (h : results fn t = results fn t') : ∀ (ds : List Deferred) (u : FrameMode) (w : World), Leaves P fn t R ds u w → Leaves P fn t' R ds u w
  | [], .returning, w, q => by simpa only [Leaves, h] using q
  | [], .panicking ch, w, q => q
  | [], .run, w, q => q
  | d :: ds, u, w, ⟨h1, fv, cap, f, args, h2, h3, h4⟩ => ⟨h1, fv, cap, f, args, h2, h3, h4.mono fun e u' w' q => by
      cases e with
      | returned v => exact leaves_tmps h ds _ _ q
      | panicked ch => exact leaves_tmps h ds _ _ q
      | outgrown => exact q⟩
theorem results_put {i : Nat} (hi : 5 ≤ i) (v : Value) (t : Array Value) : results Tryz.f38 (t.setIfInBounds i v) = results Tryz.f38 t := by
  have h : ∀ j, j < 5 → (t.setIfInBounds i v)[j]? = t[j]? := fun j hj => by rw [Array.getElem?_setIfInBounds, if_neg (by omega)]
  simp [results, Tryz.results38, h 2 (by omega), h 3 (by omega), h 4 (by omega)]
theorem put_panic {R : Ending → World → Prop} {ch : List PanicEntry} {a : Act} {i : Nat} {v : Value} {w : World} (hi : 5 ≤ i) (h : bodyPostD Tryz.prog Tryz.f38 R (.panic ch) (a.put (some i) v) w) : bodyPostD Tryz.prog Tryz.f38 R (.panic ch) a w :=
  leaves_tmps (results_put hi v a.tmps) a.defers _ _ h

/-- leave_bad in Check's walk. -/
theorem leave_flaw6 {L : List Tn} {A : Option Addr} {g cb mb c0 c1 c2 c3 : Nat} {E : Int} {x : Nat} {w w3 W' : World} {v0 v1 v2 : Value} {t0 t1 t2 : TypeId} {tmps : Array Value}
    (H : Blk w3 g t0 #[v0] ∧ Blk w3 (g + 1) t1 #[v1] ∧ Blk w3 (g + 2) t2 #[v2] ∧ g + 2 < cb ∧ RulesAt w3 cb mb c0 c1 c2 c3 ∧ LT w3 cb A L ∧ Below g w w3) (hg : w.heap.size = g) (hB : Below w3.heap.size w3 W')
    (ht : ∀ (w' : World) (s e n : Value), w'.cell? ⟨g, 0, none⟩ = some s → w'.cell? ⟨g + 1, 0, none⟩ = some e → w'.cell? ⟨g + 2, 0, none⟩ = some n → (results Tryz.f38 tmps).run Tryz.prog w' = .ok (.tuple #[s, e, n]) w') :
    Leaves Tryz.prog Tryz.f38 tmps (fun e w' => e = .returned (chkV (.bad E x)) ∧ Below w.heap.size w w') [{ target := .fn (.func 50) #[.pointer (some ⟨g, 0, none⟩), .pointer (some ⟨g + 1, 0, none⟩), .pointer (some ⟨g + 2, 0, none⟩)], args := #[] }] (.panicking [{ v := .iface 111 (.agg #[.int .i64 E, .int .i64 x]), recovered := false }]) W' := by
  obtain ⟨b0, b1, b2, _, _, _, hbw⟩ := H
  refine leave_bad (b0.below hB b0.lt) (b1.below hB b1.lt) (b2.below hB b2.lt) ht fun w' hb => ⟨rfl, ?_⟩
  rw [hg]
  have h3 : g ≤ w3.heap.size := by have := b2.lt; omega
  exact (hbw.trans (hB.mono h3)).trans (But.below hb (Nat.le_trans h3 hB.size) (by intro k hk; omega))

set_option maxRecDepth 100000 in
set_option maxHeartbeats 4000000 in
theorem Check_short (L : List Tn) (A : Option Addr) (c : Nat) (w : World) (hl : L.length ≤ 16384) (hLc : L.length ≤ c) (hS : ∀ x ∈ L, x.small) (hL : LT w w.heap.size A L) :
    Calls Tryz.prog 38 #[.slice A L.length c] w fun e w' => e = .returned (chkV (chk L)) ∧ Below w.heap.size w w' := by
  have hmf : ∀ (fn : Fn) (first cap : Array Value) (w : World), (Instr.makeFunc fn first cap).run Tryz.prog w = .ok (.func fn first cap) w := fun _ _ _ _ => rfl
  obtain ⟨R, hR⟩ : ∃ R, chk L = R := ⟨_, rfl⟩
  rw [hR]
  have HR := Lib.hid hR
  clear hR
  obtain ⟨N, hN⟩ : ∃ N, L.length = N := ⟨_, rfl⟩
  have HI := Lib.hid (And.intro hl (And.intro hLc (And.intro hS (And.intro hL hN))))
  rw [hN] at hl ⊢
  have hl2 : ¬ (16384 : Int) < (N : Int) := by omega
  clear hLc hS hL hN hl
  go_enter_defers Tryz.func38, Tryz.ntmps38
  go_upto_region 4 with fail
  have HC := Lib.hid hl2
  clear hl2
  obtain ⟨hl, hLc, hS, hL, hN⟩ := HI.out
  obtain ⟨W0, hW0⟩ : ∃ W0, (((w.alloc (.cells #[.string ⟨#[]⟩] 9)).alloc (.cells #[.int .i64 0] 30)).alloc (.cells #[.int .i64 0] 3)) = W0 := ⟨_, rfl⟩
  have hb0 : Below w.heap.size w W0 := by
    rw [← hW0]
    exact (((Below.refl w.heap.size w).alloc (Nat.le_refl _) _).alloc (by simp only [World.size_alloc]; omega) _).alloc (by simp only [World.size_alloc]; omega) _
  have b0 : Blk W0 w.heap.size 9 #[.string ⟨#[]⟩] := by rw [← hW0]; exact ((Blk.new w _ _).alloc _).alloc _
  have b1 : Blk W0 (w.heap.size + 1) 30 #[.int .i64 0] := by rw [← hW0]; exact (by simpa only [World.size_alloc] using Blk.new (w.alloc (.cells #[.string ⟨#[]⟩] 9)) 30 #[.int .i64 0] : Blk ((w.alloc (.cells #[.string ⟨#[]⟩] 9)).alloc (.cells #[.int .i64 0] 30)) (w.heap.size + 1) 30 #[.int .i64 0]).alloc _
  have b2 : Blk W0 (w.heap.size + 2) 3 #[.int .i64 0] := by rw [← hW0]; have := Blk.new ((w.alloc (.cells #[.string ⟨#[]⟩] 9)).alloc (.cells #[.int .i64 0] 30)) 3 #[.int .i64 0]; simpa only [World.size_alloc] using this
  have hL0 := hL.below hb0
  have H0 := Lib.hid (And.intro hb0 (And.intro b0 (And.intro b1 (And.intro b2 hL0))))
  rw [hW0]
  clear hW0 hb0 b0 b1 b2 hL0 hl hLc hS hL hN
  go_wp2_with fail
  (refine (rules_any _).mono ?_); rintro e w1 ⟨hb1, mb, c0, c1, c2, c3, rfl, hmb, hc0, hc1, hc2, hc3, hru⟩
  obtain ⟨hb0, b0, b1, b2, hL0⟩ := H0.out
  obtain ⟨hl, hLc, hS, hL, hN⟩ := HI.out
  obtain ⟨g, hg⟩ : ∃ g, w.heap.size = g := ⟨_, rfl⟩
  obtain ⟨cb, hcb⟩ : ∃ cb, w1.heap.size = cb := ⟨_, rfl⟩
  obtain ⟨W2, hW2⟩ : ∃ W2, w1.alloc (.cells #[.slice A N c, .int .i64 0, .map (some mb)] 117) = W2 := ⟨_, rfl⟩
  have hck : Chk W2 cb A N c 0 (.map (some mb)) := by rw [← hW2, ← hcb]; exact Blk.new _ _ _
  have k0 : Blk W2 g 9 #[.string ⟨#[]⟩] := by rw [← hW2, ← hg]; exact (b0.below hb1 b0.lt).alloc _
  have k1 : Blk W2 (g + 1) 30 #[.int .i64 0] := by rw [← hW2, ← hg]; exact (b1.below hb1 b1.lt).alloc _
  have k2 : Blk W2 (g + 2) 3 #[.int .i64 0] := by rw [← hW2, ← hg]; exact (b2.below hb1 b2.lt).alloc _
  have hlt : g + 2 < cb := by rw [← hg, ← hcb]; exact Nat.lt_of_lt_of_le b2.lt hb1.size
  have hru2 : RulesAt W2 cb mb c0 c1 c2 c3 := by rw [← hW2]; exact (hru cb (by omega)).bt (Bt.alloc (But.refl _ _) _)
  have hL2 : LT W2 cb A L := by rw [← hW2]; exact ((hL0.below hb1).fresh (by omega)).bt (Bt.alloc (But.refl _ _) _)
  have hbw : Below w.heap.size w W2 := by rw [← hW2]; exact (bl hb0 hb1).alloc (by have := hb0.size; have := hb1.size; omega) _
  have H2 := Lib.hid (And.intro hck (And.intro k0 (And.intro k1 (And.intro k2 (And.intro hlt (And.intro hru2 (And.intro hL2 hbw)))))))
  have HW := Lib.hid (And.intro hg (And.intro hcb hW2))
  clear hck k0 k1 k2 hlt hru2 hL2 hbw b0 b1 b2 hb0 hL0 hb1 hmb hc0 hc1 hc2 hc3 hru hl hLc hS hL hg hcb hW2 hN
  go_upto_region 5 with fail
  have hcall := shape_any L A c (.map (some mb)) cb (by have := HI.out.1; omega) HI.out.2.1 1024 1 0 W2 (by omega) (by omega) (by rw [HI.out.2.2.2.2]; exact H2.out.1) H2.out.2.2.2.2.2.2.1
  rw [HI.out.2.2.2.2, List.drop_zero] at hcall
  have HCALL := Lib.hid hcall
  clear hcall
  rw [HW.out.1, HW.out.2.1, HW.out.2.2]
  go_wp2_with fail
  (refine HCALL.out.mono ?_); rintro e w3 ⟨hb3, hq3⟩
  have hR := HR.out
  rw [chk_short HI.out.1] at hR
  obtain ⟨hck, k0, k1, k2, hlt, hru2, hL2, hbw⟩ := H2.out
  have b0 := hb3.blk k0 (show g ≠ cb by omega)
  have b1 := hb3.blk k1 (show g + 1 ≠ cb by omega)
  have b2 := hb3.blk k2 (show g + 2 ≠ cb by omega)
  rw [HW.out.1] at hbw
  have hb3w : Below g w w3 := hbw.trans (But.below hb3 (show g ≤ W2.heap.size by have := k2.lt; omega) (by intro k hk; omega))
  clear k0 k1 k2 hck hbw
  have H3 := Lib.hid (And.intro b0 (And.intro b1 (And.intro b2 (And.intro hlt (And.intro (hru2.bt hb3) (And.intro (hL2.bt hb3) hb3w))))))
  clear b0 b1 b2 hlt hru2 hL2 hb3w hb3
  have HD := Lib.hid (And.intro hR (And.intro HW.out.1 HI.out.2.2.2.2))
  clear hR H2 H0 HCALL
  obtain ⟨R1, hR1⟩ : ∃ R1, shq 1024 L 0 = R1 := ⟨_, rfl⟩
  have HR1 := Lib.hid hR1
  rw [hR1] at hq3
  clear hR1
  cases R1 with
  | bad E x =>
    simp only at hq3
    subst hq3
    unfold Flaw
    go_wp2_with fail
    have hR := HD.out.1
    rw [HR1.out] at hR
    simp only [Rs.then] at hR
    subst hR
    obtain ⟨b0, b1, b2, _, _, _, hbw⟩ := H3.out
    exact leave_bad b0 b1 b2 (by
      intro w' s e n h0 h1 h2
      have h2' : w'.cell? ⟨g + 1 + 1, 0, none⟩ = some n := h2
      simp [results, Tryz.results38, go_sem, h0, h1, h2']) (fun w' hb => ⟨rfl, by
        rw [HD.out.2.1]
        exact hbw.trans (But.below hb (show g ≤ w3.heap.size by have := b2.lt; omega) (by intro k hk; omega))⟩)
  | ok p =>
    simp only at hq3
    obtain ⟨rfl, hck⟩ := hq3
    have hpl := shq_at HR1.out
    have HPL := Lib.hid hpl
    obtain ⟨P, hP⟩ : ∃ P, p.2 = P := ⟨_, rfl⟩
    rw [hP] at hck
    have HP := Lib.hid hP
    have HK := Lib.hid (show ∀ W', Below w3.heap.size w3 W' → (Below w3.heap.size w3 W' ∧ W'.cell? ⟨cb, 1, none⟩ = some (.int .i64 (P : Int))) from fun W' hb' => ⟨hb', (Chk.cells (Blk.below hck hb' (Blk.lt hck))).2.1⟩)
    have HCK := Lib.hid hck
    clear hpl hP hck
    have hR := HD.out.1
    rw [HR1.out] at hR
    simp only [Rs.then, HP.out, HD.out.2.2] at hR
    by_cases hPN : P = N
    · rw [if_pos hPN] at hR
      have HRR := Lib.hid hR
      clear hR
      have HPN := Lib.hid hPN
      have heq : ((P : Int) = (N : Int)) := by omega
      clear hPN
      go_upto_region 6 with fail
      refine wp_region_held_drew (S := (fun W' => Below w3.heap.size w3 W' ∧ W'.cell? ⟨cb, 1, none⟩ = some (.int .i64 (P : Int)))) (by kernel_rfl) ?ss1 (fun hHeld => ?rr1)
      case ss1 => (try dsimp only); exact HK.out _ (Below.refl _ _).drew
      refine rgt (hQ := (fun _ _ _ h => put_panic (by decide) h)) 0 16 rfl rfl hHeld ?_
      try simp only [Act.put, rg1, rg2, rg3]
      refine rgt (hQ := (fun _ _ _ h => put_panic (by decide) h)) 1 17 rfl rfl hHeld ?_
      try simp only [Act.put, rg1, rg2, rg3]
      refine rgt (hQ := (fun _ _ _ h => put_panic (by decide) h)) 2 18 rfl rfl hHeld ?_
      try simp only [Act.put, rg1, rg2, rg3]
      refine rgt (hQ := (fun _ _ _ h => put_panic (by decide) h)) 3 19 rfl rfl hHeld ?_
      try simp only [Act.put, rg1, rg2, rg3]
      refine rgt (hQ := (fun _ _ _ h => put_panic (by decide) h)) 4 20 rfl rfl hHeld ?_
      try simp only [Act.put, rg1, rg2, rg3]
      refine rgt (hQ := (fun _ _ _ h => put_panic (by decide) h)) 5 21 rfl rfl hHeld ?_
      try simp only [Act.put, rg1, rg2, rg3]
      refine rgt (hQ := (fun _ _ _ h => put_panic (by decide) h)) 6 22 rfl rfl hHeld ?_
      try simp only [Act.put, rg1, rg2, rg3]
      refine rgt (hQ := (fun _ _ _ h => put_panic (by decide) h)) 7 23 rfl rfl hHeld ?_
      try simp only [Act.put, rg1, rg2, rg3]
      refine rgt (hQ := (fun _ _ _ h => put_panic (by decide) h)) 8 24 rfl rfl hHeld ?_
      try simp only [Act.put, rg1, rg2, rg3]
      refine rgt (hQ := (fun _ _ _ h => put_panic (by decide) h)) 9 25 rfl rfl hHeld ?_
      try simp only [Act.put, rg1, rg2, rg3]
      refine rgt (hQ := (fun _ _ _ h => put_panic (by decide) h)) 10 26 rfl rfl hHeld ?_
      try simp only [Act.put, rg1, rg2, rg3]
      refine rgc 11 (some 27) rfl (fun K hK => ?_)
      go_simp
      ((refine (need_yes 18 N _).mono ?_); rintro e w4 ⟨rfl, rfl⟩)
      refine hK.out _ _ ?ss13 (fun hHeld2 => ?rr13)
      case ss13 => (try dsimp only); exact hHeld
      clear hK K
      clear hHeld2
      try simp only [Act.put, rg1, rg2, rg3]
      refine wpAnyH_done (by kernel_rfl) ?_ _
      obtain ⟨hB, n1⟩ := hHeld
      have hck := Blk.below HCK.out hB HCK.out.lt
      have p1 := n1
      have pf := hck.frozen 1
      obtain ⟨W3, hW3⟩ : ∃ W3, w3.drew = W3 := ⟨_, rfl⟩
      rw [hW3] at hB hck p1 pf
      rw [hW3]
      have HB3 := Lib.hid (And.intro hB hck)
      clear n1 hW3 hB hck
      go_upto_region 8 with fail
      obtain ⟨W4, hW4⟩ : ∃ W4, W3.setCell ⟨cb, 1, none⟩ (.int .i64 0) = W4 := ⟨_, rfl⟩
      obtain ⟨b0, b1, b2, hlt, hru, hLT, hbw⟩ := H3.out
      have hck4 : Chk W4 cb A N c 0 (.map (some mb)) := by rw [← hW4]; exact Chk.set HB3.out.2 0
      have hbt4 : Bt cb w3 W4 := by rw [← hW4]; exact (Bt.below HB3.out.1).set_ 1 _
      obtain ⟨n, k, hwf, hhi, hLe, ht1, ht2⟩ := shq_whole HR1.out (by rw [HP.out, HPN.out, HD.out.2.2])
      have hcall := typed_any L A c mb cb c0 c1 c2 c3 (by have := HI.out.1; omega) HI.out.2.1 HI.out.2.2.1 n k 0 [] [] none 0 W4 (by rw [List.drop_zero]; exact hLe) hwf (by intro t ht; cases ht) (Nat.le_refl _) (by simp only [List.length_nil]; omega) (.inl rfl) (by rw [HD.out.2.2]; exact hck4) (hLT.bt hbt4) (hru.bt hbt4)
      have hRR := HRR.out
      rw [ht1, ht2] at hRR
      rw [hRR] at hcall
      have HCALL := Lib.hid hcall
      have H4 := Lib.hid (And.intro (hbt4.blk b0 (show g ≠ cb by omega)) (And.intro (hbt4.blk b1 (show g + 1 ≠ cb by omega)) (And.intro (hbt4.blk b2 (show g + 2 ≠ cb by omega)) (hbw.trans (But.below hbt4 (show g ≤ w3.heap.size by have := b2.lt; omega) (by intro k hk; omega))))))
      clear hcall hRR hbt4 hck4 b0 b1 b2 hru hLT hbw hwf hhi hLe ht1 ht2 p1 pf
      rw [hW4]
      clear hW4 heq
      go_wp2_with fail
      (refine HCALL.out.mono ?_); rintro e w5 ⟨hb5, hq5⟩
      obtain ⟨b0, b1, b2, hbw⟩ := H4.out
      have k0 := hb5.blk b0 (show g ≠ cb by omega)
      have k1 := hb5.blk b1 (show g + 1 ≠ cb by omega)
      have k2 := hb5.blk b2 (show g + 2 ≠ cb by omega)
      have hbw5 : Below g w w5 := hbw.trans (But.below hb5 (show g ≤ W4.heap.size by have := b2.lt; omega) (by intro k hk; omega))
      clear b0 b1 b2 hbw hb5
      cases R with
      | bad E x =>
        simp only at hq5
        subst hq5
        have H5 := Lib.hid (And.intro k0 (And.intro k1 (And.intro k2 hbw5)))
        clear k0 k1 k2 hbw5
        unfold Flaw
        go_wp2_with fail
        obtain ⟨k0, k1, k2, hbw5⟩ := H5.out
        exact leave_bad k0 k1 k2 (by intro w' s e n h0 h1 h2; have h2' : w'.cell? ⟨g + 1 + 1, 0, none⟩ = some n := h2; simp [results, Tryz.results38, go_sem, h0, h1, h2']) (fun w' hb => ⟨rfl, by
          rw [HD.out.2.1]
          exact hbw5.trans (But.below hb (show g ≤ w5.heap.size by have := k2.lt; omega) (by intro k hk; omega))⟩)
      | ok t =>
        obtain ⟨rfl, _⟩ := hq5
        have m0 := k0.cell 0
        have m1 := k1.cell 0
        have m2 : w5.cell? ⟨g + 1 + 1, 0, none⟩ = _ := k2.cell 0
        have f0 := k0.frozen 0
        have f1 := k1.frozen 0
        have f2 : w5.frozen? ⟨g + 1 + 1, 0, none⟩ = false := k2.frozen 0
        have H5 := Lib.hid (And.intro k0 (And.intro k1 (And.intro k2 hbw5)))
        clear k0 k1 k2 hbw5 hlt
        simp only [List.getElem?_toArray, List.getElem?_cons_zero, List.getElem?_cons_succ] at m0 m1 m2
        go_wp2_with fail
        obtain ⟨k0, k1, k2, hbw5⟩ := H5.out
        have q0 := ((k0.set_ 0 (.string (str t))).far (p := ⟨g + 1, 0, none⟩) (by simp) (.int .i64 0)).far (p := ⟨g + 2, 0, none⟩) (by simp) (.int .i64 0)
        have q1 := ((k1.far (p := ⟨g, 0, none⟩) (by simp) (.string (str t))).set_ 0 (.int .i64 0)).far (p := ⟨g + 2, 0, none⟩) (by simp) (.int .i64 0)
        have q2 := ((k2.far (p := ⟨g, 0, none⟩) (by simp) (.string (str t))).far (p := ⟨g + 1, 0, none⟩) (by simp) (.int .i64 0)).set_ 0 (.int .i64 0)
        have hb9 := But.set3 (g := g) (But.refl _ w5) (.string (str t)) (.int .i64 0) (.int .i64 0)
        exact leave_good q0 q1 q2 (by intro w' s e n h0 h1 h2; have h2' : w'.cell? ⟨g + 1 + 1, 0, none⟩ = some n := h2; simp [results, Tryz.results38, go_sem, h0, h1, h2']) (fun w' hb => ⟨rfl, by
          rw [HD.out.2.1]
          have hg5 : g ≤ w5.heap.size := by have := k2.lt; omega
          exact (hbw5.trans (But.below hb9 hg5 (by intro k hk; omega))).trans (hb.mono (Nat.le_trans hg5 hb9.size))⟩)
    · rw [if_neg hPN] at hR
      subst hR
      have heq : ((P : Int) == (N : Int)) = false := by simp; omega
      go_upto_region 6 with fail
      refine wp_region_held_drew (S := (fun W' => Below w3.heap.size w3 W' ∧ W'.cell? ⟨cb, 1, none⟩ = some (.int .i64 (P : Int)))) (by kernel_rfl) ?ss14 (fun hHeld => ?rr14)
      case ss14 => (try dsimp only); exact HK.out _ (Below.refl _ _).drew
      refine rgt (hQ := (fun _ _ _ h => put_panic (by decide) h)) 0 16 rfl rfl hHeld ?_
      try simp only [Act.put, rg1, rg2, rg3]
      refine rgt (hQ := (fun _ _ _ h => put_panic (by decide) h)) 1 17 rfl rfl hHeld ?_
      try simp only [Act.put, rg1, rg2, rg3]
      refine rgt (hQ := (fun _ _ _ h => put_panic (by decide) h)) 2 18 rfl rfl hHeld ?_
      try simp only [Act.put, rg1, rg2, rg3]
      refine rgt (hQ := (fun _ _ _ h => put_panic (by decide) h)) 3 19 rfl rfl hHeld ?_
      try simp only [Act.put, rg1, rg2, rg3]
      refine rgt (hQ := (fun _ _ _ h => put_panic (by decide) h)) 4 20 rfl rfl hHeld ?_
      try simp only [Act.put, rg1, rg2, rg3]
      refine rgt (hQ := (fun _ _ _ h => put_panic (by decide) h)) 5 21 rfl rfl hHeld ?_
      try simp only [Act.put, rg1, rg2, rg3]
      refine rgt (hQ := (fun _ _ _ h => put_panic (by decide) h)) 6 22 rfl rfl hHeld ?_
      try simp only [Act.put, rg1, rg2, rg3]
      refine rgt (hQ := (fun _ _ _ h => put_panic (by decide) h)) 7 23 rfl rfl hHeld ?_
      try simp only [Act.put, rg1, rg2, rg3]
      refine rgt (hQ := (fun _ _ _ h => put_panic (by decide) h)) 8 24 rfl rfl hHeld ?_
      try simp only [Act.put, rg1, rg2, rg3]
      refine rgt (hQ := (fun _ _ _ h => put_panic (by decide) h)) 9 25 rfl rfl hHeld ?_
      try simp only [Act.put, rg1, rg2, rg3]
      refine rgt (hQ := (fun _ _ _ h => put_panic (by decide) h)) 10 26 rfl rfl hHeld ?_
      try simp only [Act.put, rg1, rg2, rg3]
      refine rgc 11 (some 27) rfl (fun K hK => ?_)
      go_simp
      (refine (need_no 18 P _).mono ?_)
      (rintro e w4 ⟨rfl, rfl⟩)
      unfold Flaw
      go_wp2_with fail
      exact leave_flaw6 H3.out HD.out.2.1 hHeld.1 (by intro w' s e n h0 h1 h2; have h2' : w'.cell? ⟨g + 1 + 1, 0, none⟩ = some n := h2; simp [results, Tryz.results38, go_sem, h0, h1, h2'])
theorem Check_any (L : List Tn) (A : Option Addr) (c : Nat) (w : World) (hN : L.length ≤ 1000000) (hLc : L.length ≤ c) (hS : ∀ x ∈ L, x.small) (hL : LT w w.heap.size A L) :
    Calls Tryz.prog 38 #[.slice A L.length c] w fun e w' => e = .returned (chkV (chk L)) ∧ Below w.heap.size w w' := by
  by_cases hl : L.length ≤ 16384
  · exact Check_short L A c w hl hLc hS hL
  · have h := Check_long L A c w (by omega) hN
    have e : chk L = .bad 17 0 := by unfold chk; rw [if_pos (by omega)]
    rw [e]
    exact h
end Go.Proofs.YtmagljnlfponaaaGreat.K

/- RelU -/
namespace Go.Proofs.YtmagljnlfponaaaGreat.T

def meetT : Ty → Ty → Ty
  | .leaf h, T => if h = 63 then T else .leaf h
  | .un h a, T => match T with | .un _ b => .un h (meetT a b) | _ => .un h a
  | .bin h a b, T => match T with | .bin _ c d => .bin h (meetT a c) (meetT b d) | _ => .bin h a b

def joinT : Ty → Ty → Ty
  | .leaf h, T => if h = T.head then .leaf h else .leaf 63
  | .un h a, T => if h = T.head then (match T with | .un _ b => .un h (joinT a b) | _ => .un h a) else .leaf 63
  | .bin h a b, T => if h = T.head then (match T with | .bin _ c d => .bin h (joinT a c) (joinT b d) | _ => .bin h a b) else .leaf 63

theorem meet_len (S : Ty) : ∀ T : Ty, (meetT S T).code.length ≤ S.code.length + T.code.length := by
  induction S with
  | leaf h => intro T; simp only [meetT]; split <;> simp [Ty.code]
  | un h a ih =>
    intro T
    cases T with
    | un g b => have := ih b; simp [meetT, Ty.code]; omega
    | leaf g => simp [meetT, Ty.code]
    | bin g b c => simp [meetT, Ty.code] <;> omega
  | bin h a b iha ihb =>
    intro T
    cases T with
    | bin g c d => have := iha c; have := ihb d; simp [meetT, Ty.code]; omega
    | leaf g => simp [meetT, Ty.code]
    | un g c => simp [meetT, Ty.code] <;> omega

theorem join_len (S : Ty) : ∀ T : Ty, (joinT S T).code.length ≤ S.code.length := by
  induction S with
  | leaf h => intro T; simp only [joinT]; split <;> simp [Ty.code]
  | un h a ih =>
    intro T
    simp only [joinT]
    split
    · cases T with
      | un g b => have := ih b; simp [Ty.code]; omega
      | leaf g => simp
      | bin g b c => simp
    · simp [Ty.code]
  | bin h a b iha ihb =>
    intro T
    simp only [joinT]
    split
    · cases T with
      | bin g c d => have := iha c; have := ihb d; simp [Ty.code]; omega
      | leaf g => simp
      | un g c => simp
    · simp [Ty.code]

theorem meet_q {S : Ty} (hS : S.ok) (h : S.head = 63) (T : Ty) : meetT S T = T := by rw [head63 hS h]; simp [meetT]
theorem meet_r {S T : Ty} (hS : S.ok) (hT : T.ok) (h1 : S.head ≠ 63) (h : T.head = 63) : meetT S T = S := by
  rw [head63 hT h]
  cases S with
  | leaf a => simp [meetT, Ty.head] at *; intro h; exact absurd h h1
  | un a b => simp [meetT]
  | bin a b c => simp [meetT]

/-- The letters of two types of one head, joined part by part. -/
def zipC (f : Ty → Ty → Ty) (h : UInt8) (K1 K2 : List Ty) (j : Nat) : List UInt8 := h :: ((K1.zip K2).take j).flatMap fun p => (f p.1 p.2).code
theorem zipC_zero (f : Ty → Ty → Ty) (h : UInt8) (K1 K2 : List Ty) : zipC f h K1 K2 0 = [h] := by simp [zipC]
theorem zipC_succ (f : Ty → Ty → Ty) (h : UInt8) {K1 K2 : List Ty} {j : Nat} {S T : Ty} (h1 : K1[j]? = some S) (h2 : K2[j]? = some T) : zipC f h K1 K2 (j + 1) = zipC f h K1 K2 j ++ (f S T).code := by
  unfold zipC
  have h3 : (K1.zip K2)[j]? = some (S, T) := List.getElem?_zip_eq_some.2 ⟨h1, h2⟩
  rw [take_succ_some h3]
  simp
theorem zipC_len {f : Ty → Ty → Ty} {h : UInt8} {K1 K2 : List Ty} (hb : ∀ p ∈ K1.zip K2, (f p.1 p.2).code.length ≤ 128) (j : Nat) : (zipC f h K1 K2 j).length ≤ 1 + j * 128 := by
  unfold zipC
  induction j with
  | zero => simp
  | succ j ih =>
    rw [List.take_add_one]
    rcases hj : (K1.zip K2)[j]? with _ | p
    · simp only [hj, Option.toList_none, List.append_nil]; omega
    · have := hb p (List.mem_of_getElem? hj)
      simp only [Option.toList_some, List.flatMap_append, List.length_cons, List.length_append, List.flatMap_cons, List.flatMap_nil, List.append_nil] at *
      omega

theorem meet_zip {S T : Ty} (hS : S.ok) (hT : T.ok) (h1 : S.head ≠ 63) (h : S.head = T.head) : zipC meetT S.head S.kids T.kids S.kids.length = (meetT S T).code := by
  have hl := kids_len hS hT h
  cases S with
  | leaf a => simp [zipC, meetT, Ty.kids, Ty.head, Ty.code] at *; simp [h1, Ty.code]
  | un a b =>
    cases T with
    | leaf c => simp [Ty.kids] at hl
    | un c d => simp [zipC, meetT, Ty.kids, Ty.head, Ty.code]
    | bin c d e => simp [Ty.kids] at hl
  | bin a b c =>
    cases T with
    | leaf c => simp [Ty.kids] at hl
    | un c d => simp [Ty.kids] at hl
    | bin c d e => simp [zipC, meetT, Ty.kids, Ty.head, Ty.code]

theorem join_zip {S T : Ty} (hS : S.ok) (hT : T.ok) (h : S.head = T.head) : zipC joinT S.head S.kids T.kids S.kids.length = (joinT S T).code := by
  have hl := kids_len hS hT h
  cases S with
  | leaf a => simp [Ty.head] at h; simp [zipC, joinT, Ty.kids, Ty.head, Ty.code, h]
  | un a b =>
    cases T with
    | leaf c => simp [Ty.kids] at hl
    | un c d => simp [Ty.head] at h; simp [zipC, joinT, Ty.kids, Ty.head, Ty.code, h]
    | bin c d e => simp [Ty.kids] at hl
  | bin a b c =>
    cases T with
    | leaf c => simp [Ty.kids] at hl
    | un c d => simp [Ty.kids] at hl
    | bin c d e => simp [Ty.head] at h; simp [zipC, joinT, Ty.kids, Ty.head, Ty.code, h]
theorem join_no {S T : Ty} (h : S.head ≠ T.head) : joinT S T = .leaf 63 := by
  cases S
  · exact if_neg h
  · exact if_neg h
  · exact if_neg h

theorem meet_ok {S : Ty} : ∀ {T : Ty}, S.ok → T.ok → (meetT S T).ok := by
  induction S with
  | leaf h => intro T hS hT; simp only [meetT]; split; exact hT; exact hS
  | un h a ih =>
    intro T hS hT
    cases T with
    | un g b => exact ⟨hS.1, ih hS.2 hT.2⟩
    | leaf g => exact hS
    | bin g b c => exact hS
  | bin h a b iha ihb =>
    intro T hS hT
    cases T with
    | bin g c d => exact ⟨hS.1, iha hS.2.1 hT.2.1, ihb hS.2.2 hT.2.2⟩
    | leaf g => exact hS
    | un g c => exact hS
theorem join_ok {S : Ty} : ∀ {T : Ty}, S.ok → T.ok → (joinT S T).ok := by
  have q : (Ty.leaf 63).ok := by show arB 63 = 0; decide
  induction S with
  | leaf h => intro T hS hT; simp only [joinT]; split; exact hS; exact q
  | un h a ih =>
    intro T hS hT
    simp only [joinT]
    split
    · cases T with
      | un g b => exact ⟨hS.1, ih hS.2 hT.2⟩
      | leaf g => exact hS
      | bin g b c => exact hS
    · exact q
  | bin h a b iha ihb =>
    intro T hS hT
    simp only [joinT]
    split
    · cases T with
      | bin g c d => exact ⟨hS.1, iha hS.2.1 hT.2.1, ihb hS.2.2 hT.2.2⟩
      | leaf g => exact hS
      | un g c => exact hS
    · exact q

end Go.Proofs.YtmagljnlfponaaaGreat.T
