/- Parts of this claim: CkR, JuB. -/
import Derived.Test.YtjklecncdinabaaP28
import Derived.Test.YtjklecncdinabaaP04
import Derived.Test.YtjklecncdinabaaP01
import Derived.Test.YtjklecncdinabaaP09
set_option linter.unusedVariables false
set_option linter.unusedSimpArgs false
/- CkR -/
namespace Go.Proofs.Ytjklecncdinabaa.K
open Go.RowKit Go.Proofs.Ytjklecncdinabaa.B Go.Proofs.Ytjklecncdinabaa.T
set_option linter.unusedVariables false
set_option linter.unusedSimpArgs false

theorem LT.fresh {w : World} {cb cb2 : Nat} {A : Option Addr} {L : List Tn} (h : LT w cb A L) (hc : w.heap.size ≤ cb2) : LT w cb2 A L := by
  rcases h with h | ⟨b, o, h1, h2, h3, h4⟩
  · exact .inl h
  · exact .inr ⟨b, o, h1, by omega, h3, h4⟩
theorem LT.below {w w' : World} {cb : Nat} {A : Option Addr} {L : List Tn} (h : LT w cb A L) (hb : Below w.heap.size w w') : LT w' cb A L := h.bt (Bt.below hb)
/-- What Check answers. -/
def chkV : Rs Ty → Value
  | .ok t => .tuple #[.string (str t), .int .i64 0, .int .i64 0]
  | .bad E x => .tuple #[.string ⟨#[]⟩, .int .i64 E, .int .i64 (x : Int)]

set_option maxRecDepth 100000 in
set_option maxHeartbeats 4000000 in
theorem Check_long (L : List Tn) (A : Option Addr) (c : Nat) (w : World) (hl : 16384 < L.length) (hN : L.length ≤ 1000000) :
    Calls Try.prog 18 #[.slice A L.length c] w fun e w' => e = .returned (chkV (.bad 17 0)) ∧ Below w.heap.size w w' := by
  have hl2 : (16384 : Int) < (L.length : Int) := by omega
  generalize L.length = N at *
  go_enter_defers Try.func18, Try.ntmps18
  go_wp2_with fail
  have hb := ((Below.refl w.heap.size w).alloc (Nat.le_refl _) (.cells #[.string ⟨#[]⟩] 9)).alloc (by simp) (.cells #[.int .i64 17] 29) |>.alloc (by simp only [World.size_alloc]; omega) (.cells #[.int .i64 0] 3)
  have HB := Lib.hid hb
  clear hb
  simp [bodyPostD, Leaves, results, Try.results18, go_sem, chkV]
  exact HB.out

theorem chk_short {L : List Tn} (h : L.length ≤ 16384) : chk L = (shq 1024 L 0).then fun p => if p.2 = L.length then tyT (treeN L).1 (treeN L).2 [] 0 else .bad 18 p.2 := by
  unfold chk; rw [if_neg (by omega)]
theorem shq_whole {L : List Tn} {p : List Tn × Nat} (h : shq 1024 L 0 = .ok p) (hp : p.2 = L.length) : ∃ n k, Tf.wf (.cons n k .nil) ∧ k.high + 1 ≤ 1024 ∧ L = n :: (k.list ++ []) ∧ (treeN L).1 = n ∧ (treeN L).2 = k := by
  obtain ⟨r, a⟩ := p
  obtain ⟨n, k, hw, hh, rfl, rfl⟩ := shq_tree _ _ _ _ _ h
  simp only [List.length_cons, List.length_append, Tf.list_len] at hp
  obtain rfl : r = [] := List.eq_nil_of_length_eq_zero (by omega)
  have ht := treeN_eq hw
  rw [List.append_nil]
  exact ⟨n, k, hw, hh, by rw [List.append_nil], by rw [ht], by rw [ht]⟩
theorem shq_at {L : List Tn} {p : List Tn × Nat} (h : shq 1024 L 0 = .ok p) : p.2 ≤ L.length := by
  obtain ⟨r, a⟩ := p
  obtain ⟨n, k, hw, hh, rfl, rfl⟩ := shq_tree _ _ _ _ _ h
  simp only [List.length_cons, List.length_append, Tf.list_len]
  omega
/-- The way out behind a panic: the deferred closure lays the error. -/
theorem leave_bad {g : Nat} {E x : Int} {w : World} {v0 v1 v2 : Value} {t0 t1 t2 : TypeId} {tmps : Array Value} {R : Ending → World → Prop} (b0 : Blk w g t0 #[v0]) (b1 : Blk w (g + 1) t1 #[v1]) (b2 : Blk w (g + 2) t2 #[v2])
    (ht : ∀ (w' : World) (s e n : Value), w'.cell? ⟨g, 0, none⟩ = some s → w'.cell? ⟨g + 1, 0, none⟩ = some e → w'.cell? ⟨g + 2, 0, none⟩ = some n → (results Try.f18 tmps).run Try.prog w' = .ok (.tuple #[s, e, n]) w')
    (hR : ∀ w', But (fun k => k = g ∨ k = g + 1 ∨ k = g + 2) w w' → R (.returned (.tuple #[.string ⟨#[]⟩, .int .i64 E, .int .i64 x])) w') :
    Leaves Try.prog Try.f18 tmps R [{ target := .fn (.func 25) #[.pointer (some ⟨g, 0, none⟩), .pointer (some ⟨g + 1, 0, none⟩), .pointer (some ⟨g + 2, 0, none⟩)], args := #[] }] (.panicking [{ v := .iface 73 (.agg #[.int .i64 E, .int .i64 x]), recovered := false }]) w := by
  refine leaves_cons (f := 25) (args := #[.pointer (some ⟨g, 0, none⟩), .pointer (some ⟨g + 1, 0, none⟩), .pointer (some ⟨g + 2, 0, none⟩)]) (by simp) (by simp [go_sem]) ?_
  refine (catch_flaw g E x w v0 v1 v2 t0 t1 t2 b0 b1 b2).mono ?_
  rintro e u' w' ⟨rfl, rfl, hb, h0, h1, h2⟩
  exact ⟨_, ht w' _ _ _ h0 h1 h2, hR w' hb⟩
/-- The way out where nothing panicked. -/
theorem leave_good {g : Nat} {w : World} {s e n : Value} {t0 t1 t2 : TypeId} {tmps : Array Value} {R : Ending → World → Prop} (b0 : Blk w g t0 #[s]) (b1 : Blk w (g + 1) t1 #[e]) (b2 : Blk w (g + 2) t2 #[n])
    (ht : ∀ (w' : World) (s e n : Value), w'.cell? ⟨g, 0, none⟩ = some s → w'.cell? ⟨g + 1, 0, none⟩ = some e → w'.cell? ⟨g + 2, 0, none⟩ = some n → (results Try.f18 tmps).run Try.prog w' = .ok (.tuple #[s, e, n]) w')
    (hR : ∀ w', Below w.heap.size w w' → R (.returned (.tuple #[s, e, n])) w') :
    Leaves Try.prog Try.f18 tmps R [{ target := .fn (.func 25) #[.pointer (some ⟨g, 0, none⟩), .pointer (some ⟨g + 1, 0, none⟩), .pointer (some ⟨g + 2, 0, none⟩)], args := #[] }] .returning w := by
  refine leaves_cons (f := 25) (args := #[.pointer (some ⟨g, 0, none⟩), .pointer (some ⟨g + 1, 0, none⟩), .pointer (some ⟨g + 2, 0, none⟩)]) (by simp) (by simp [go_sem]) ?_
  refine (catch_none _ _ _ w).mono ?_
  rintro e' u' w' ⟨rfl, rfl, hb⟩
  exact ⟨_, ht w' _ _ _ (((b0.below hb b0.lt).cell 0).trans rfl) (((b1.below hb b1.lt).cell 0).trans rfl) (((b2.below hb b2.lt).cell 0).trans rfl), hR w' hb⟩

theorem leaves_tmps {P : Program} {fn : Func} {t t' : Array Value} {R : Ending → World → Prop} (h : results fn t = results fn t') : ∀ (ds : List Deferred) (u : FrameMode) (w : World), Leaves P fn t R ds u w → Leaves P fn t' R ds u w
  | [], .returning, w, q => by simpa only [Leaves, h] using q
  | [], .panicking ch, w, q => q
  | [], .run, w, q => q
  | d :: ds, u, w, ⟨h1, fv, cap, f, args, h2, h3, h4⟩ => ⟨h1, fv, cap, f, args, h2, h3, h4.mono fun e u' w' q => by
      cases e with
      | returned v => exact leaves_tmps h ds _ _ q
      | panicked ch => exact leaves_tmps h ds _ _ q
      | outgrown => exact q⟩
theorem results_put {i : Nat} (hi : 5 ≤ i) (v : Value) (t : Array Value) : results Try.f18 (t.setIfInBounds i v) = results Try.f18 t := by
  have h : ∀ j, j < 5 → (t.setIfInBounds i v)[j]? = t[j]? := fun j hj => by rw [Array.getElem?_setIfInBounds, if_neg (by omega)]
  simp [results, Try.results18, h 2 (by omega), h 3 (by omega), h 4 (by omega)]
theorem put_panic {R : Ending → World → Prop} {ch : List PanicEntry} {a : Act} {i : Nat} {v : Value} {w : World} (hi : 5 ≤ i) (h : bodyPostD Try.prog Try.f18 R (.panic ch) (a.put (some i) v) w) : bodyPostD Try.prog Try.f18 R (.panic ch) a w :=
  leaves_tmps (results_put hi v a.tmps) a.defers _ _ h

/-- leave_bad in Check's walk. -/
theorem leave_flaw6 {L : List Tn} {A : Option Addr} {g cb mb c0 c1 c2 c3 : Nat} {E : Int} {x : Nat} {w w3 W' : World} {v0 v1 v2 : Value} {t0 t1 t2 : TypeId} {tmps : Array Value}
    (H : Blk w3 g t0 #[v0] ∧ Blk w3 (g + 1) t1 #[v1] ∧ Blk w3 (g + 2) t2 #[v2] ∧ g + 2 < cb ∧ RulesAt w3 cb mb c0 c1 c2 c3 ∧ LT w3 cb A L ∧ Below g w w3) (hg : w.heap.size = g) (hB : Below w3.heap.size w3 W')
    (ht : ∀ (w' : World) (s e n : Value), w'.cell? ⟨g, 0, none⟩ = some s → w'.cell? ⟨g + 1, 0, none⟩ = some e → w'.cell? ⟨g + 2, 0, none⟩ = some n → (results Try.f18 tmps).run Try.prog w' = .ok (.tuple #[s, e, n]) w') :
    Leaves Try.prog Try.f18 tmps (fun e w' => e = .returned (chkV (.bad E x)) ∧ Below w.heap.size w w') [{ target := .fn (.func 25) #[.pointer (some ⟨g, 0, none⟩), .pointer (some ⟨g + 1, 0, none⟩), .pointer (some ⟨g + 2, 0, none⟩)], args := #[] }] (.panicking [{ v := .iface 73 (.agg #[.int .i64 E, .int .i64 x]), recovered := false }]) W' := by
  obtain ⟨b0, b1, b2, _, _, _, hbw⟩ := H
  refine leave_bad (b0.below hB b0.lt) (b1.below hB b1.lt) (b2.below hB b2.lt) ht fun w' hb => ⟨rfl, ?_⟩
  rw [hg]
  have h3 : g ≤ w3.heap.size := by have := b2.lt; omega
  exact (hbw.trans (hB.mono h3)).trans (But.below hb (Nat.le_trans h3 hB.size) (by intro k hk; omega))

set_option maxRecDepth 100000 in
set_option maxHeartbeats 4000000 in
theorem Check_short (L : List Tn) (A : Option Addr) (c : Nat) (w : World) (hl : L.length ≤ 16384) (hLc : L.length ≤ c) (hS : ∀ x ∈ L, x.small) (hL : LT w w.heap.size A L) :
    Calls Try.prog 18 #[.slice A L.length c] w fun e w' => e = .returned (chkV (chk L)) ∧ Below w.heap.size w w' := by
  have hmf : ∀ (fn : Fn) (first cap : Array Value) (w : World), (Instr.makeFunc fn first cap).run Try.prog w = .ok (.func fn first cap) w := fun _ _ _ _ => rfl
  obtain ⟨R, hR⟩ : ∃ R, chk L = R := ⟨_, rfl⟩
  rw [hR]
  have HR := Lib.hid hR
  clear hR
  obtain ⟨N, hN⟩ : ∃ N, L.length = N := ⟨_, rfl⟩
  have HI := Lib.hid (And.intro hl (And.intro hLc (And.intro hS (And.intro hL hN))))
  rw [hN] at hl ⊢
  have hl2 : ¬ (16384 : Int) < (N : Int) := by omega
  clear hLc hS hL hN hl
  go_enter_defers Try.func18, Try.ntmps18
  go_upto_region 4 with fail
  have HC := Lib.hid hl2
  clear hl2
  obtain ⟨hl, hLc, hS, hL, hN⟩ := HI.out
  obtain ⟨W0, hW0⟩ : ∃ W0, (((w.alloc (.cells #[.string ⟨#[]⟩] 9)).alloc (.cells #[.int .i64 0] 29)).alloc (.cells #[.int .i64 0] 3)) = W0 := ⟨_, rfl⟩
  have hb0 : Below w.heap.size w W0 := by
    rw [← hW0]
    exact (((Below.refl w.heap.size w).alloc (Nat.le_refl _) _).alloc (by simp only [World.size_alloc]; omega) _).alloc (by simp only [World.size_alloc]; omega) _
  have b0 : Blk W0 w.heap.size 9 #[.string ⟨#[]⟩] := by rw [← hW0]; exact ((Blk.new w _ _).alloc _).alloc _
  have b1 : Blk W0 (w.heap.size + 1) 29 #[.int .i64 0] := by rw [← hW0]; exact (by simpa only [World.size_alloc] using Blk.new (w.alloc (.cells #[.string ⟨#[]⟩] 9)) 29 #[.int .i64 0] : Blk ((w.alloc (.cells #[.string ⟨#[]⟩] 9)).alloc (.cells #[.int .i64 0] 29)) (w.heap.size + 1) 29 #[.int .i64 0]).alloc _
  have b2 : Blk W0 (w.heap.size + 2) 3 #[.int .i64 0] := by rw [← hW0]; have := Blk.new ((w.alloc (.cells #[.string ⟨#[]⟩] 9)).alloc (.cells #[.int .i64 0] 29)) 3 #[.int .i64 0]; simpa only [World.size_alloc] using this
  have hL0 := hL.below hb0
  have H0 := Lib.hid (And.intro hb0 (And.intro b0 (And.intro b1 (And.intro b2 hL0))))
  rw [hW0]
  clear hW0 hb0 b0 b1 b2 hL0 hl hLc hS hL hN
  go_wp2_with fail
  (refine (rules_any _).mono ?_); rintro e w1 ⟨hb1, mb, c0, c1, c2, c3, rfl, hmb, hc0, hc1, hc2, hc3, hru⟩
  obtain ⟨hb0, b0, b1, b2, hL0⟩ := H0.out
  obtain ⟨hl, hLc, hS, hL, hN⟩ := HI.out
  obtain ⟨g, hg⟩ : ∃ g, w.heap.size = g := ⟨_, rfl⟩
  obtain ⟨cb, hcb⟩ : ∃ cb, w1.heap.size = cb := ⟨_, rfl⟩
  obtain ⟨W2, hW2⟩ : ∃ W2, w1.alloc (.cells #[.slice A N c, .int .i64 0, .map (some mb)] 79) = W2 := ⟨_, rfl⟩
  have hck : Chk W2 cb A N c 0 (.map (some mb)) := by rw [← hW2, ← hcb]; exact Blk.new _ _ _
  have k0 : Blk W2 g 9 #[.string ⟨#[]⟩] := by rw [← hW2, ← hg]; exact (b0.below hb1 b0.lt).alloc _
  have k1 : Blk W2 (g + 1) 29 #[.int .i64 0] := by rw [← hW2, ← hg]; exact (b1.below hb1 b1.lt).alloc _
  have k2 : Blk W2 (g + 2) 3 #[.int .i64 0] := by rw [← hW2, ← hg]; exact (b2.below hb1 b2.lt).alloc _
  have hlt : g + 2 < cb := by rw [← hg, ← hcb]; exact Nat.lt_of_lt_of_le b2.lt hb1.size
  have hru2 : RulesAt W2 cb mb c0 c1 c2 c3 := by rw [← hW2]; exact (hru cb (by omega)).bt (Bt.alloc (But.refl _ _) _)
  have hL2 : LT W2 cb A L := by rw [← hW2]; exact ((hL0.below hb1).fresh (by omega)).bt (Bt.alloc (But.refl _ _) _)
  have hbw : Below w.heap.size w W2 := by rw [← hW2]; exact (bl hb0 hb1).alloc (by have := hb0.size; have := hb1.size; omega) _
  have H2 := Lib.hid (And.intro hck (And.intro k0 (And.intro k1 (And.intro k2 (And.intro hlt (And.intro hru2 (And.intro hL2 hbw)))))))
  have HW := Lib.hid (And.intro hg (And.intro hcb hW2))
  clear hck k0 k1 k2 hlt hru2 hL2 hbw b0 b1 b2 hb0 hL0 hb1 hmb hc0 hc1 hc2 hc3 hru hl hLc hS hL hg hcb hW2 hN
  go_upto_region 5 with fail
  have hcall := shape_any L A c (.map (some mb)) cb (by have := HI.out.1; omega) HI.out.2.1 1024 1 0 W2 (by omega) (by omega) (by rw [HI.out.2.2.2.2]; exact H2.out.1) H2.out.2.2.2.2.2.2.1
  rw [HI.out.2.2.2.2, List.drop_zero] at hcall
  have HCALL := Lib.hid hcall
  clear hcall
  rw [HW.out.1, HW.out.2.1, HW.out.2.2]
  go_wp2_with fail
  (refine HCALL.out.mono ?_); rintro e w3 ⟨hb3, hq3⟩
  have hR := HR.out
  rw [chk_short HI.out.1] at hR
  obtain ⟨hck, k0, k1, k2, hlt, hru2, hL2, hbw⟩ := H2.out
  have b0 := hb3.blk k0 (show g ≠ cb by omega)
  have b1 := hb3.blk k1 (show g + 1 ≠ cb by omega)
  have b2 := hb3.blk k2 (show g + 2 ≠ cb by omega)
  rw [HW.out.1] at hbw
  have hb3w : Below g w w3 := hbw.trans (But.below hb3 (show g ≤ W2.heap.size by have := k2.lt; omega) (by intro k hk; omega))
  clear k0 k1 k2 hck hbw
  have H3 := Lib.hid (And.intro b0 (And.intro b1 (And.intro b2 (And.intro hlt (And.intro (hru2.bt hb3) (And.intro (hL2.bt hb3) hb3w))))))
  clear b0 b1 b2 hlt hru2 hL2 hb3w hb3
  have HD := Lib.hid (And.intro hR (And.intro HW.out.1 HI.out.2.2.2.2))
  clear hR H2 H0 HCALL
  obtain ⟨R1, hR1⟩ : ∃ R1, shq 1024 L 0 = R1 := ⟨_, rfl⟩
  have HR1 := Lib.hid hR1
  rw [hR1] at hq3
  clear hR1
  cases R1 with
  | bad E x =>
    simp only at hq3
    subst hq3
    unfold Flaw
    go_wp2_with fail
    have hR := HD.out.1
    rw [HR1.out] at hR
    simp only [Rs.then] at hR
    subst hR
    obtain ⟨b0, b1, b2, _, _, _, hbw⟩ := H3.out
    exact leave_bad b0 b1 b2 (by
      intro w' s e n h0 h1 h2
      have h2' : w'.cell? ⟨g + 1 + 1, 0, none⟩ = some n := h2
      simp [results, Try.results18, go_sem, h0, h1, h2']) (fun w' hb => ⟨rfl, by
        rw [HD.out.2.1]
        exact hbw.trans (But.below hb (show g ≤ w3.heap.size by have := b2.lt; omega) (by intro k hk; omega))⟩)
  | ok p =>
    simp only at hq3
    obtain ⟨rfl, hck⟩ := hq3
    have hpl := shq_at HR1.out
    have HPL := Lib.hid hpl
    obtain ⟨P, hP⟩ : ∃ P, p.2 = P := ⟨_, rfl⟩
    rw [hP] at hck
    have HP := Lib.hid hP
    have HK := Lib.hid (show ∀ W', Below w3.heap.size w3 W' → (Below w3.heap.size w3 W' ∧ W'.cell? ⟨cb, 1, none⟩ = some (.int .i64 (P : Int))) from fun W' hb' => ⟨hb', (Chk.cells (Blk.below hck hb' (Blk.lt hck))).2.1⟩)
    have HCK := Lib.hid hck
    clear hpl hP hck
    have hR := HD.out.1
    rw [HR1.out] at hR
    simp only [Rs.then, HP.out, HD.out.2.2] at hR
    by_cases hPN : P = N
    · rw [if_pos hPN] at hR
      have HRR := Lib.hid hR
      clear hR
      have HPN := Lib.hid hPN
      have heq : ((P : Int) = (N : Int)) := by omega
      clear hPN
      go_upto_region 6 with fail
      refine wp_region_held_drew (S := (fun W' => Below w3.heap.size w3 W' ∧ W'.cell? ⟨cb, 1, none⟩ = some (.int .i64 (P : Int)))) (by kernel_rfl) ?ss1 (fun hHeld => ?rr1)
      case ss1 => (try dsimp only); exact HK.out _ (Below.refl _ _).drew
      refine rgt (hQ := (fun _ _ _ h => put_panic (by decide) h)) 0 16 rfl rfl hHeld ?_
      try simp only [Act.put, rg1, rg2, rg3]
      refine rgt (hQ := (fun _ _ _ h => put_panic (by decide) h)) 1 17 rfl rfl hHeld ?_
      try simp only [Act.put, rg1, rg2, rg3]
      refine rgt (hQ := (fun _ _ _ h => put_panic (by decide) h)) 2 18 rfl rfl hHeld ?_
      try simp only [Act.put, rg1, rg2, rg3]
      refine rgt (hQ := (fun _ _ _ h => put_panic (by decide) h)) 3 19 rfl rfl hHeld ?_
      try simp only [Act.put, rg1, rg2, rg3]
      refine rgt (hQ := (fun _ _ _ h => put_panic (by decide) h)) 4 20 rfl rfl hHeld ?_
      try simp only [Act.put, rg1, rg2, rg3]
      refine rgt (hQ := (fun _ _ _ h => put_panic (by decide) h)) 5 21 rfl rfl hHeld ?_
      try simp only [Act.put, rg1, rg2, rg3]
      refine rgt (hQ := (fun _ _ _ h => put_panic (by decide) h)) 6 22 rfl rfl hHeld ?_
      try simp only [Act.put, rg1, rg2, rg3]
      refine rgt (hQ := (fun _ _ _ h => put_panic (by decide) h)) 7 23 rfl rfl hHeld ?_
      try simp only [Act.put, rg1, rg2, rg3]
      refine rgt (hQ := (fun _ _ _ h => put_panic (by decide) h)) 8 24 rfl rfl hHeld ?_
      try simp only [Act.put, rg1, rg2, rg3]
      refine rgt (hQ := (fun _ _ _ h => put_panic (by decide) h)) 9 25 rfl rfl hHeld ?_
      try simp only [Act.put, rg1, rg2, rg3]
      refine rgt (hQ := (fun _ _ _ h => put_panic (by decide) h)) 10 26 rfl rfl hHeld ?_
      try simp only [Act.put, rg1, rg2, rg3]
      refine rgc 11 (some 27) rfl (fun K hK => ?_)
      go_simp
      ((refine (need_yes 18 N _).mono ?_); rintro e w4 ⟨rfl, rfl⟩)
      refine hK.out _ _ ?ss13 (fun hHeld2 => ?rr13)
      case ss13 => (try dsimp only); exact hHeld
      clear hK K
      clear hHeld2
      try simp only [Act.put, rg1, rg2, rg3]
      refine wpAnyH_done (by kernel_rfl) ?_ _
      obtain ⟨hB, n1⟩ := hHeld
      have hck := Blk.below HCK.out hB HCK.out.lt
      have p1 := n1
      have pf := hck.frozen 1
      obtain ⟨W3, hW3⟩ : ∃ W3, w3.drew = W3 := ⟨_, rfl⟩
      rw [hW3] at hB hck p1 pf
      rw [hW3]
      have HB3 := Lib.hid (And.intro hB hck)
      clear n1 hW3 hB hck
      go_upto_region 8 with fail
      obtain ⟨W4, hW4⟩ : ∃ W4, W3.setCell ⟨cb, 1, none⟩ (.int .i64 0) = W4 := ⟨_, rfl⟩
      obtain ⟨b0, b1, b2, hlt, hru, hLT, hbw⟩ := H3.out
      have hck4 : Chk W4 cb A N c 0 (.map (some mb)) := by rw [← hW4]; exact Chk.set HB3.out.2 0
      have hbt4 : Bt cb w3 W4 := by rw [← hW4]; exact (Bt.below HB3.out.1).set_ 1 _
      obtain ⟨n, k, hwf, hhi, hLe, ht1, ht2⟩ := shq_whole HR1.out (by rw [HP.out, HPN.out, HD.out.2.2])
      have hcall := typed_any L A c mb cb c0 c1 c2 c3 (by have := HI.out.1; omega) HI.out.2.1 HI.out.2.2.1 n k 0 [] [] none 0 W4 (by rw [List.drop_zero]; exact hLe) hwf (by intro t ht; cases ht) (Nat.le_refl _) (by simp only [List.length_nil]; omega) (.inl rfl) (by rw [HD.out.2.2]; exact hck4) (hLT.bt hbt4) (hru.bt hbt4)
      have hRR := HRR.out
      rw [ht1, ht2] at hRR
      rw [hRR] at hcall
      have HCALL := Lib.hid hcall
      have H4 := Lib.hid (And.intro (hbt4.blk b0 (show g ≠ cb by omega)) (And.intro (hbt4.blk b1 (show g + 1 ≠ cb by omega)) (And.intro (hbt4.blk b2 (show g + 2 ≠ cb by omega)) (hbw.trans (But.below hbt4 (show g ≤ w3.heap.size by have := b2.lt; omega) (by intro k hk; omega))))))
      clear hcall hRR hbt4 hck4 b0 b1 b2 hru hLT hbw hwf hhi hLe ht1 ht2 p1 pf
      rw [hW4]
      clear hW4 heq
      go_wp2_with fail
      (refine HCALL.out.mono ?_); rintro e w5 ⟨hb5, hq5⟩
      obtain ⟨b0, b1, b2, hbw⟩ := H4.out
      have k0 := hb5.blk b0 (show g ≠ cb by omega)
      have k1 := hb5.blk b1 (show g + 1 ≠ cb by omega)
      have k2 := hb5.blk b2 (show g + 2 ≠ cb by omega)
      have hbw5 : Below g w w5 := hbw.trans (But.below hb5 (show g ≤ W4.heap.size by have := b2.lt; omega) (by intro k hk; omega))
      clear b0 b1 b2 hbw hb5
      cases R with
      | bad E x =>
        simp only at hq5
        subst hq5
        have H5 := Lib.hid (And.intro k0 (And.intro k1 (And.intro k2 hbw5)))
        clear k0 k1 k2 hbw5
        unfold Flaw
        go_wp2_with fail
        obtain ⟨k0, k1, k2, hbw5⟩ := H5.out
        exact leave_bad k0 k1 k2 (by intro w' s e n h0 h1 h2; have h2' : w'.cell? ⟨g + 1 + 1, 0, none⟩ = some n := h2; simp [results, Try.results18, go_sem, h0, h1, h2']) (fun w' hb => ⟨rfl, by
          rw [HD.out.2.1]
          exact hbw5.trans (But.below hb (show g ≤ w5.heap.size by have := k2.lt; omega) (by intro k hk; omega))⟩)
      | ok t =>
        obtain ⟨rfl, _⟩ := hq5
        have m0 := k0.cell 0
        have m1 := k1.cell 0
        have m2 : w5.cell? ⟨g + 1 + 1, 0, none⟩ = _ := k2.cell 0
        have f0 := k0.frozen 0
        have f1 := k1.frozen 0
        have f2 : w5.frozen? ⟨g + 1 + 1, 0, none⟩ = false := k2.frozen 0
        have H5 := Lib.hid (And.intro k0 (And.intro k1 (And.intro k2 hbw5)))
        clear k0 k1 k2 hbw5 hlt
        simp only [List.getElem?_toArray, List.getElem?_cons_zero, List.getElem?_cons_succ] at m0 m1 m2
        go_wp2_with fail
        obtain ⟨k0, k1, k2, hbw5⟩ := H5.out
        have q0 := ((k0.set_ 0 (.string (str t))).far (p := ⟨g + 1, 0, none⟩) (by simp) (.int .i64 0)).far (p := ⟨g + 2, 0, none⟩) (by simp) (.int .i64 0)
        have q1 := ((k1.far (p := ⟨g, 0, none⟩) (by simp) (.string (str t))).set_ 0 (.int .i64 0)).far (p := ⟨g + 2, 0, none⟩) (by simp) (.int .i64 0)
        have q2 := ((k2.far (p := ⟨g, 0, none⟩) (by simp) (.string (str t))).far (p := ⟨g + 1, 0, none⟩) (by simp) (.int .i64 0)).set_ 0 (.int .i64 0)
        have hb9 := But.set3 (g := g) (But.refl _ w5) (.string (str t)) (.int .i64 0) (.int .i64 0)
        exact leave_good q0 q1 q2 (by intro w' s e n h0 h1 h2; have h2' : w'.cell? ⟨g + 1 + 1, 0, none⟩ = some n := h2; simp [results, Try.results18, go_sem, h0, h1, h2']) (fun w' hb => ⟨rfl, by
          rw [HD.out.2.1]
          have hg5 : g ≤ w5.heap.size := by have := k2.lt; omega
          exact (hbw5.trans (But.below hb9 hg5 (by intro k hk; omega))).trans (hb.mono (Nat.le_trans hg5 hb9.size))⟩)
    · rw [if_neg hPN] at hR
      subst hR
      have heq : ((P : Int) == (N : Int)) = false := by simp; omega
      go_upto_region 6 with fail
      refine wp_region_held_drew (S := (fun W' => Below w3.heap.size w3 W' ∧ W'.cell? ⟨cb, 1, none⟩ = some (.int .i64 (P : Int)))) (by kernel_rfl) ?ss14 (fun hHeld => ?rr14)
      case ss14 => (try dsimp only); exact HK.out _ (Below.refl _ _).drew
      refine rgt (hQ := (fun _ _ _ h => put_panic (by decide) h)) 0 16 rfl rfl hHeld ?_
      try simp only [Act.put, rg1, rg2, rg3]
      refine rgt (hQ := (fun _ _ _ h => put_panic (by decide) h)) 1 17 rfl rfl hHeld ?_
      try simp only [Act.put, rg1, rg2, rg3]
      refine rgt (hQ := (fun _ _ _ h => put_panic (by decide) h)) 2 18 rfl rfl hHeld ?_
      try simp only [Act.put, rg1, rg2, rg3]
      refine rgt (hQ := (fun _ _ _ h => put_panic (by decide) h)) 3 19 rfl rfl hHeld ?_
      try simp only [Act.put, rg1, rg2, rg3]
      refine rgt (hQ := (fun _ _ _ h => put_panic (by decide) h)) 4 20 rfl rfl hHeld ?_
      try simp only [Act.put, rg1, rg2, rg3]
      refine rgt (hQ := (fun _ _ _ h => put_panic (by decide) h)) 5 21 rfl rfl hHeld ?_
      try simp only [Act.put, rg1, rg2, rg3]
      refine rgt (hQ := (fun _ _ _ h => put_panic (by decide) h)) 6 22 rfl rfl hHeld ?_
      try simp only [Act.put, rg1, rg2, rg3]
      refine rgt (hQ := (fun _ _ _ h => put_panic (by decide) h)) 7 23 rfl rfl hHeld ?_
      try simp only [Act.put, rg1, rg2, rg3]
      refine rgt (hQ := (fun _ _ _ h => put_panic (by decide) h)) 8 24 rfl rfl hHeld ?_
      try simp only [Act.put, rg1, rg2, rg3]
      refine rgt (hQ := (fun _ _ _ h => put_panic (by decide) h)) 9 25 rfl rfl hHeld ?_
      try simp only [Act.put, rg1, rg2, rg3]
      refine rgt (hQ := (fun _ _ _ h => put_panic (by decide) h)) 10 26 rfl rfl hHeld ?_
      try simp only [Act.put, rg1, rg2, rg3]
      refine rgc 11 (some 27) rfl (fun K hK => ?_)
      go_simp
      (refine (need_no 18 P _).mono ?_)
      (rintro e w4 ⟨rfl, rfl⟩)
      unfold Flaw
      go_wp2_with fail
      exact leave_flaw6 H3.out HD.out.2.1 hHeld.1 (by intro w' s e n h0 h1 h2; have h2' : w'.cell? ⟨g + 1 + 1, 0, none⟩ = some n := h2; simp [results, Try.results18, go_sem, h0, h1, h2'])
theorem Check_any (L : List Tn) (A : Option Addr) (c : Nat) (w : World) (hN : L.length ≤ 1000000) (hLc : L.length ≤ c) (hS : ∀ x ∈ L, x.small) (hL : LT w w.heap.size A L) :
    Calls Try.prog 18 #[.slice A L.length c] w fun e w' => e = .returned (chkV (chk L)) ∧ Below w.heap.size w w' := by
  by_cases hl : L.length ≤ 16384
  · exact Check_short L A c w hl hLc hS hL
  · have h := Check_long L A c w (by omega) hN
    have e : chk L = .bad 17 0 := by unfold chk; rw [if_pos (by omega)]
    rw [e]
    exact h
end Go.Proofs.Ytjklecncdinabaa.K

/- JuB -/
namespace Go.Proofs.Ytjklecncdinabaa.J
open Go.Proofs.Ytjklecncdinabaa.T Go.Proofs.Ytjklecncdinabaa.K
set_option linter.unusedVariables false
set_option linter.unusedSimpArgs false

/-! ### What a term that checks says of its nodes -/
theorem tyT_words {n : Tn} {k : Tf} {env : List Ty} {a : Nat} {t : Ty} (hw : Tf.wf (.cons n k .nil)) (h : tyT n k env a = .ok t) :
    wordsE n env.length = 0 ∧ (k = .nil ∨ ∃ m e a' vs, tyF k m e a' = .ok vs) := by
  unfold tyT at h
  split at h
  · cases h
  rename_i h0
  refine ⟨Decidable.of_not_not h0, ?_⟩
  split at h
  · rename_i h4
    left
    have hg := (goodN_iff.1 hw.1).2.2
    have hk := hw.2.1
    have ha : arK n.kd = 0 := by rw [h4]; rfl
    cases k with
    | nil => rfl
    | cons x y z => simp only [Tf.len] at hk; omega
  split at h
  · obtain ⟨f, _, h⟩ := Rs.of_then h
    obtain ⟨vs, h, _⟩ := Rs.of_then h
    exact .inr ⟨_, _, _, _, h⟩
  split at h
  · obtain ⟨f, _, h⟩ := Rs.of_then h
    obtain ⟨vs, h, _⟩ := Rs.of_then h
    exact .inr ⟨_, _, _, _, h⟩
  split at h
  · obtain ⟨vs, h, _⟩ := Rs.of_then h
    exact .inr ⟨_, _, _, _, h⟩
  · obtain ⟨vs, h, _⟩ := Rs.of_then h
    exact .inr ⟨_, _, _, _, h⟩
theorem tyF_words : ∀ (f : Tf) (m : Bool) (env : List Ty) (a : Nat) (ts : List Ty), f.wf → tyF f m env a = .ok ts → ∀ x ∈ f.list, ∃ b, wordsE x b = 0
  | .nil, m, env, a, ts, hw, h, x, hx => by cases hx
  | .cons n k r, m, env, a, ts, hw, h, x, hx => by
    rw [tyF_cons] at h
    obtain ⟨t, h1, h⟩ := Rs.of_then h
    obtain ⟨us, h2, _⟩ := Rs.of_then h
    obtain ⟨h0, hk⟩ := tyT_words ⟨hw.1, hw.2.1, hw.2.2.1, trivial⟩ h1
    simp only [Tf.list, List.mem_cons, List.mem_append] at hx
    rcases hx with rfl | hx | hx
    · exact ⟨_, h0⟩
    · rcases hk with rfl | ⟨m', e', a', vs, hk⟩
      · cases hx
      · exact tyF_words k _ _ _ _ hw.2.2.1 hk x hx
    · exact tyF_words r _ _ _ _ hw.2.2.2 h2 x hx
theorem chk_words {L : List Tn} {t : Ty} (h : chk L = .ok t) : ∀ x ∈ L, ∃ b, wordsE x b = 0 := by
  obtain ⟨_, n, k, hw, _, rfl, ht, _⟩ := chk_ok h
  intro x hx
  refine tyF_words (.cons n k .nil) false [] 0 [t] hw ?_ x (by simpa [Tf.list] using hx)
  rw [tyF_cons, ht]; rfl
/-- A cast that may stand. -/
def Cst (n : Tn) : Prop := isB n.t = true ∧ isB n.u = true ∧ co (ty n.t) (ty n.u) ∧ 1 ≤ n.n ∧ n.n ≤ 2147483647
theorem words_cast {n : Tn} {b : Nat} (hk : n.kd = 30) (h : wordsE n b = 0) : Cst n := by
  unfold wordsE at h
  rw [hk] at h
  simp only [show ¬ ((30 : Int) = 2) by decide, show ¬ ((30 : Int) = 3) by decide, show ¬ ((30 : Int) = 4) by decide, show ¬ ((30 : Int) = 21) by decide, show ¬ ((30 : Int) = 5 ∨ (30 : Int) = 6) by decide, if_false, if_true] at h
  split at h
  · rename_i h1
    split at h
    · rename_i h2
      split at h
      · rename_i h3; exact ⟨h1.1, h1.2, h2, h3.1, h3.2⟩
      · cases h
    · cases h
  · cases h

/-! ### Errors are errors -/
theorem words_bad (n : Tn) (b : Nat) : wordsE n b = 0 ∨ wordsE n b ≠ 0 := by by_cases h : wordsE n b = 0 <;> simp [h]
theorem want_bad {α : Type} {p : Prop} {a : Nat} {r : Rs α} {E : Int} {x : Nat} (h : want p a r = .bad E x) (hr : r = .bad E x → E ≠ 0) : E ≠ 0 := by
  unfold want at h
  split at h
  · exact hr h
  · injection h with h; omega
theorem made_bad {t : Ty} {a : Nat} {E : Int} {x : Nat} (h : made t a = .bad E x) : E ≠ 0 := by
  unfold made at h
  split at h
  · cases h
  · injection h with h; omega
theorem ite_bad {α : Type} {c : Prop} [Decidable c] {x y : Rs α} {E : Int} {p : Nat} (h : (if c then x else y) = .bad E p) : x = .bad E p ∨ y = .bad E p := by
  by_cases hc : c
  · rw [if_pos hc] at h; exact .inl h
  · rw [if_neg hc] at h; exact .inr h
theorem then_bad {α β : Type} {r : Rs α} {f : α → Rs β} {E : Int} {x : Nat} (h : r.then f = .bad E x) : r = .bad E x ∨ ∃ a, r = .ok a ∧ f a = .bad E x := by
  cases r with
  | ok a => exact .inr ⟨a, rfl, h⟩
  | bad e y => exact .inl (by injection h with h1 h2; rw [h1, h2])
theorem okbad {α : Type} {a : α} {E : Int} {x : Nat} (h : Rs.ok a = .bad E x) : E ≠ 0 := by cases h
theorem ruleE_bad {n : Tn} {ts : List Ty} {a : Nat} {E : Int} {x : Nat} (h : ruleE n ts a = .bad E x) : E ≠ 0 := by
  unfold ruleE at h
  simp only at h
  repeat (rcases ite_bad h with h | h; · first | exact okbad h | exact made_bad h | exact want_bad h (fun h => okbad h) | exact want_bad h (fun h => made_bad h))
  exact want_bad h (fun h => okbad h)
theorem tyF_bad : ∀ (f : Tf) (m : Bool) (env : List Ty) (a : Nat) (E : Int) (x : Nat), tyF f m env a = .bad E x → E ≠ 0
  | .nil, m, env, a, E, x, h => by simp only [tyF] at h; cases h
  | .cons n k r, m, env, a, E, x, h => by
    rw [tyF_cons] at h
    rcases then_bad h with h | ⟨t, _, h⟩
    · unfold tyT at h
      split at h
      · rename_i h0; injection h with h; rw [← h]; exact h0
      split at h
      · exact okbad h
      split at h
      · rcases then_bad h with h | ⟨f, _, h⟩
        · exact made_bad h
        · rcases then_bad h with h | ⟨vs, _, h⟩
          · exact tyF_bad k _ _ _ _ _ h
          · exact want_bad h (fun h => okbad h)
      split at h
      · rcases then_bad h with h | ⟨f, _, h⟩
        · exact made_bad h
        · rcases then_bad h with h | ⟨vs, _, h⟩
          · exact tyF_bad k _ _ _ _ _ h
          · exact want_bad h (fun h => okbad h)
      split at h
      · rcases then_bad h with h | ⟨vs, _, h⟩
        · exact tyF_bad k _ _ _ _ _ h
        · exact okbad h
      · rcases then_bad h with h | ⟨vs, _, h⟩
        · exact tyF_bad k _ _ _ _ _ h
        · exact ruleE_bad h
    · rcases then_bad h with h | ⟨us, _, h⟩
      · exact tyF_bad r _ _ _ _ _ h
      · exact okbad h
theorem loopQ_bad {f : List Tn → Nat → Rs (List Tn × Nat)} (hf : ∀ l a E x, f l a = .bad E x → E ≠ 0) : ∀ (m : Nat) (l : List Tn) (a : Nat) (E : Int) (x : Nat), loopQ f m l a = .bad E x → E ≠ 0
  | 0, l, a, E, x, h => by simp only [loopQ] at h; cases h
  | m + 1, l, a, E, x, h => by
    simp only [loopQ] at h
    rcases hr : f l a with ⟨l1, a1⟩ | ⟨e, y⟩
    · rw [hr] at h; exact loopQ_bad hf m _ _ _ _ h
    · rw [hr] at h
      injection h with h1 h2
      rw [← h1]
      exact hf _ _ _ _ hr
theorem shq_bad : ∀ (d : Nat) (l : List Tn) (a : Nat) (E : Int) (x : Nat), shq d l a = .bad E x → E ≠ 0
  | d, [], a, E, x, h => by simp [shq] at h; omega
  | 0, n :: r, a, E, x, h => by
    simp only [shq] at h
    split at h <;> (injection h with h; omega)
  | d + 1, n :: r, a, E, x, h => by
    simp only [shq] at h
    split at h
    · exact loopQ_bad (fun l a E x => shq_bad d l a E x) _ _ _ _ _ h
    · injection h with h; omega
theorem chk_bad {L : List Tn} {E : Int} {x : Nat} (h : chk L = .bad E x) : E ≠ 0 := by
  unfold chk at h
  split at h
  · injection h with h; omega
  rcases then_bad h with h | ⟨p, _, h⟩
  · exact shq_bad _ _ _ _ _ h
  · split at h
    · refine tyF_bad (.cons (treeN L).1 (treeN L).2 .nil) false [] 0 E x ?_
      rw [tyF_cons, h]; rfl
    · injection h with h; omega

/-! ### A program's casts; who can be blamed -/
/-- The casts of a term, in order. -/
def laidL (L : List Tn) : List Tn := L.filter fun n => n.kd == 30
theorem laid_mem {L : List Tn} {c : Tn} : c ∈ laidL L ↔ c ∈ L ∧ c.kd = 30 := by simp [laidL]
theorem laid_cst {L : List Tn} {t : Ty} (h : chk L = .ok t) : ∀ c ∈ laidL L, Cst c := by
  intro c hc
  obtain ⟨h1, h2⟩ := laid_mem.1 hc
  obtain ⟨b, hb⟩ := chk_words h c h1
  exact words_cast h2 hb
open Classical in
/-- check: the error (0: none), the casts. -/
noncomputable def chkP (L : List Tn) (T : ByteArray) (N : Nat) : Int × List Tn :=
  match chk L with
  | .bad E _ => (E, [])
  | .ok t => if str t ≠ T then (23, []) else if ∃ c ∈ laidL L, (N : Int) < c.n then (1, []) else (0, laidL L)
theorem chkP_ok {L : List Tn} {T : ByteArray} {N : Nat} (h : (chkP L T N).1 = 0) : (chkP L T N).2 = laidL L ∧ (∃ t, chk L = .ok t ∧ str t = T) ∧ ∀ c ∈ laidL L, Cst c ∧ c.n ≤ N := by
  unfold chkP at h ⊢
  rcases hc : chk L with t | ⟨E, x⟩
  · rw [hc] at h
    simp only at h ⊢
    by_cases h1 : str t = T
    · rw [if_neg (by simpa using h1)] at h ⊢
      by_cases h2 : ∃ c ∈ laidL L, (N : Int) < c.n
      · rw [if_pos h2] at h; cases h
      · rw [if_neg h2]
        refine ⟨rfl, ⟨t, rfl, h1⟩, fun c hm => ⟨laid_cst hc c hm, ?_⟩⟩
        rcases Int.lt_or_le (N : Int) c.n with h3 | h3
        · exact absurd ⟨c, hm, h3⟩ h2
        · exact h3
    · rw [if_pos h1] at h; cases h
  · rw [hc] at h
    exact absurd h (chk_bad hc)
theorem chkP_bad {L : List Tn} {T : ByteArray} {N : Nat} (h : (chkP L T N).1 ≠ 0) : (chkP L T N).2 = [] := by
  unfold chkP at h ⊢
  rcases hc : chk L with t | ⟨E, x⟩
  · rw [hc] at h
    simp only at h ⊢
    split
    · rfl
    · split
      · rfl
      · rename_i h1 h2
        rw [if_neg h1, if_neg h2] at h
        exact absurd rfl h
  · rfl

noncomputable def plusC (n : Tn) : Bool := plusT (ty n.t) (ty n.u)
noncomputable def minusC (n : Tn) : Bool := minusT (ty n.t) (ty n.u)
/-- The blames that a cast can make; those of casts. -/
noncomputable def blC (n : Tn) : List Int := (if plusC n = true then [] else [n.n]) ++ (if minusC n = true then [] else [-n.n])
noncomputable def blL (l : List Tn) : List Int := l.flatMap blC
theorem blC_mem {n : Tn} {b : Int} : b ∈ blC n ↔ (plusC n = false ∧ b = n.n) ∨ (minusC n = false ∧ b = -n.n) := by
  unfold blC
  rcases hp : plusC n <;> rcases hm : minusC n <;> simp
theorem blL_in {l : List Tn} {N : Nat} (h : ∀ c ∈ l, Cst c ∧ c.n ≤ N) : ∀ b ∈ blL l, (1 ≤ b ∧ b ≤ N) ∨ (1 ≤ -b ∧ -b ≤ N) := by
  intro b hb
  obtain ⟨c, hc, hb⟩ := List.mem_flatMap.1 hb
  have h1 := h c hc
  have h2 := h1.1.2.2.2
  rcases blC_mem.1 hb with ⟨_, rfl⟩ | ⟨_, rfl⟩
  · left; omega
  · right; omega

/-- The sides that can be blamed, of N labels. -/
def markS (s : List (Bool × Bool)) (b : Int) : List (Bool × Bool) :=
  if 0 < b then s.set (b.toNat - 1) (true, (s.getD (b.toNat - 1) (false, false)).2) else s.set ((-b).toNat - 1) ((s.getD ((-b).toNat - 1) (false, false)).1, true)
def sidesL (N : Nat) (bl : List Int) : List (Bool × Bool) := bl.foldl markS (List.replicate N (false, false))
theorem markS_len (s : List (Bool × Bool)) (b : Int) : (markS s b).length = s.length := by unfold markS; split <;> simp
theorem fold_len (bl : List Int) : ∀ s : List (Bool × Bool), (bl.foldl markS s).length = s.length := by
  induction bl with
  | nil => intro s; rfl
  | cons b bl ih => intro s; rw [List.foldl_cons, ih, markS_len]
theorem sides_len (N : Nat) (bl : List Int) : (sidesL N bl).length = N := by unfold sidesL; rw [fold_len]; simp
theorem mark_at (s : List (Bool × Bool)) (b : Int) (i : Nat) (x : Bool × Bool) (hb : b ≠ 0) (h : s[i]? = some x) :
    (markS s b)[i]? = some (x.1 || decide (b = (i : Int) + 1), x.2 || decide (b = -((i : Int) + 1))) := by
  have hi : i < s.length := (List.getElem?_eq_some_iff.1 h).1
  unfold markS
  split
  · rename_i hp
    by_cases e : b.toNat - 1 = i
    · subst e
      rw [List.getElem?_set_self hi, List.getD_eq_getElem?_getD, h]
      have e1 : b = ((b.toNat - 1 : Nat) : Int) + 1 := by omega
      have e2 : ¬ b = -(((b.toNat - 1 : Nat) : Int) + 1) := by omega
      rw [decide_eq_true e1, decide_eq_false e2]
      simp
    · rw [List.getElem?_set_ne e, h]
      have e1 : ¬ b = (i : Int) + 1 := by omega
      have e2 : ¬ b = -((i : Int) + 1) := by omega
      rw [decide_eq_false e1, decide_eq_false e2]
      simp
  · rename_i hp
    by_cases e : (-b).toNat - 1 = i
    · subst e
      rw [List.getElem?_set_self hi, List.getD_eq_getElem?_getD, h]
      have e1 : ¬ b = (((-b).toNat - 1 : Nat) : Int) + 1 := by omega
      have e2 : b = -((((-b).toNat - 1 : Nat) : Int) + 1) := by omega
      rw [decide_eq_false e1, decide_eq_true e2]
      simp
    · rw [List.getElem?_set_ne e, h]
      have e1 : ¬ b = (i : Int) + 1 := by omega
      have e2 : ¬ b = -((i : Int) + 1) := by omega
      rw [decide_eq_false e1, decide_eq_false e2]
      simp
theorem fold_at (bl : List Int) : ∀ (s : List (Bool × Bool)) (i : Nat) (x : Bool × Bool), (∀ b ∈ bl, b ≠ 0) → s[i]? = some x →
    (bl.foldl markS s)[i]? = some (x.1 || decide ((i : Int) + 1 ∈ bl), x.2 || decide (-((i : Int) + 1) ∈ bl)) := by
  induction bl with
  | nil => intro s i x _ h; simp [h]
  | cons b bl ih =>
    intro s i x hb h
    rw [List.foldl_cons, ih _ i _ (fun c hc => hb c (List.mem_cons_of_mem _ hc)) (mark_at s b i x (hb b (by simp)) h)]
    have key : ∀ z : Int, decide (z ∈ b :: bl) = (decide (b = z) || decide (z ∈ bl)) := fun z => by
      by_cases h1 : b = z
      · rw [decide_eq_true h1, Bool.true_or, decide_eq_true (by rw [h1]; exact List.mem_cons_self)]
      · rw [decide_eq_false h1, Bool.false_or]
        exact decide_eq_decide.2 ⟨fun h => (List.mem_cons.1 h).resolve_left (fun e => h1 e.symm), List.mem_cons_of_mem _⟩
    rw [key, key, Bool.or_assoc, Bool.or_assoc]
theorem sides_at {N : Nat} {bl : List Int} {i : Nat} (hb : ∀ b ∈ bl, b ≠ 0) (hi : i < N) : (sidesL N bl)[i]? = some (decide ((i : Int) + 1 ∈ bl), decide (-((i : Int) + 1) ∈ bl)) := by
  unfold sidesL
  rw [fold_at bl _ i (false, false) hb (by simp [hi])]
  simp
end Go.Proofs.Ytjklecncdinabaa.J
