/- Parts of this claim: CkC, RelN. -/
import Derived.Deep.LoopGhost
import Derived.Deep.Cut
import Derived.Deep.CutRange
import Derived.Test.YtmagljnlfponaaaGreatP02
import Derived.Test.YtmagljnlfponaaaGreatP03
import Derived.Test.YtmagljnlfponaaaGreatP00
set_option linter.unusedVariables false
set_option linter.unusedSimpArgs false
/- CkC -/
namespace Go.Proofs.YtmagljnlfponaaaGreat.K
open Go.RowKit Go.Proofs.YtmagljnlfponaaaGreat.B Go.Proofs.YtmagljnlfponaaaGreat.T
set_option linter.unusedVariables false
set_option linter.unusedSimpArgs false

def tns (l : List Tn) : List Value := l.flatMap Tn.vs
theorem tns_len (l : List Tn) : (tns l).length = l.length * 8 := by
  induction l with
  | nil => rfl
  | cons s l ih => simp only [tns, List.flatMap_cons, List.length_append, List.length_cons] at *; rw [ih]; simp [Tn.vs]; omega
theorem tns_at (l : List Tn) : ∀ (k : Nat) (s : Tn) (j : Nat), l[k]? = some s → j < 8 → (tns l)[k * 8 + j]? = s.vs[j]? := by
  induction l with
  | nil => intro k s j h; simp at h
  | cons x l ih =>
    intro k s j h hj
    have hl : x.vs.length = 8 := rfl
    cases k with
    | zero =>
      simp at h; subst h
      simp only [tns, List.flatMap_cons]
      rw [List.getElem?_append_left (by omega)]; simp
    | succ k =>
      simp at h
      simp only [tns, List.flatMap_cons]
      rw [List.getElem?_append_right (by omega)]
      have := ih k s j h hj
      simp only [tns] at this
      rw [show (k + 1) * 8 + j - x.vs.length = k * 8 + j by omega]; exact this

/-- A term's nodes in memory, not in block cb. -/
def LT (w : World) (cb : Nat) (A : Option Addr) (L : List Tn) : Prop := L = [] ∨ ∃ b o, A = some ⟨b, o, none⟩ ∧ b ≠ cb ∧ b < w.heap.size ∧ ∀ j u, (tns L)[j]? = some u → w.cell? ⟨b, o + j, none⟩ = some u
/-- What a walk through a term touches: its own block, and what it makes. -/
abbrev Bt (cb : Nat) (w w' : World) : Prop := But (fun k => k = cb) w w'
theorem Bt.trans {cb : Nat} {a b c : World} (h : Bt cb a b) (k : Bt cb b c) : Bt cb a c := But.trans h k fun _ _ h => h
theorem Bt.below {cb : Nat} {w w' : World} (h : Below w.heap.size w w') : Bt cb w w' := But.of_below h
theorem Bt.alloc {cb : Nat} {a w : World} (h : Bt cb a w) (o : Obj) : Bt cb a (w.alloc o) := But.alloc h o
theorem Bt.set_ {cb : Nat} {a w : World} (h : Bt cb a w) (i : Nat) (u : Value) : Bt cb a (w.setCell ⟨cb, i, none⟩ u) :=
  ⟨h.os, h.tape, h.output, by rw [World.size_setCell]; exact h.size, fun k hk hc => (Below.heap_setCell w ⟨cb, i, none⟩ u k (by show k ≠ cb; exact hc)).trans (h.block k hk hc)⟩
theorem Bt.cell {cb : Nat} {w w' : World} (h : Bt cb w w') {p : Addr} (hp : p.block < w.heap.size) (hc : p.block ≠ cb) : w'.cell? p = w.cell? p := World.cell?_of_block (w := w) (h.block _ hp hc)
theorem Bt.blk {cb g : Nat} {w w' : World} {t : TypeId} {cs : Array Value} (h : Bt cb w w') (hb : Blk w g t cs) (hc : g ≠ cb) : Blk w' g t cs := (h.block g hb.lt hc).trans hb
theorem LT.bt {w w' : World} {cb : Nat} {A : Option Addr} {L : List Tn} (h : LT w cb A L) (hb : Bt cb w w') : LT w' cb A L := by
  rcases h with h | ⟨b, o, h1, h2, h3, h4⟩
  · exact .inl h
  · exact .inr ⟨b, o, h1, h2, Nat.lt_of_lt_of_le h3 hb.size, fun j u hu => (hb.cell (p := ⟨b, o + j, none⟩) h3 h2).trans (h4 j u hu)⟩
theorem LT.node {w : World} {cb : Nat} {A : Option Addr} {L : List Tn} (h : LT w cb A L) {k : Nat} {s : Tn} (hk : L[k]? = some s) :
    ∃ b o, A = some ⟨b, o, none⟩ ∧ b ≠ cb ∧ b < w.heap.size ∧ w.cell? ⟨b, o + k * 8, none⟩ = some (.int .i8 s.kd) ∧ w.cell? ⟨b, o + k * 8 + 1, none⟩ = some (.int .i64 s.kids) ∧ w.cell? ⟨b, o + k * 8 + 2, none⟩ = some (.int .i64 s.n) ∧
      w.cell? ⟨b, o + k * 8 + 3, none⟩ = some (.string s.s) ∧ w.cell? ⟨b, o + k * 8 + 4, none⟩ = some (.string s.t) ∧ w.cell? ⟨b, o + k * 8 + 5, none⟩ = some (.string s.u) ∧ w.cell? ⟨b, o + k * 8 + 6, none⟩ = some (.int .i64 s.ln) ∧ w.cell? ⟨b, o + k * 8 + 7, none⟩ = some (.int .i64 s.cl) := by
  rcases h with h | ⟨b, o, h1, h2, h3, h4⟩
  · subst h; simp at hk
  · have g : ∀ j u, j < 8 → s.vs[j]? = some u → w.cell? ⟨b, o + k * 8 + j, none⟩ = some u := by
      intro j u hj hu
      have := h4 (k * 8 + j) u (by rw [tns_at L k s j hk hj]; exact hu)
      rwa [← Nat.add_assoc] at this
    exact ⟨b, o, h1, h2, h3, g 0 _ (by omega) rfl, g 1 _ (by omega) rfl, g 2 _ (by omega) rfl, g 3 _ (by omega) rfl, g 4 _ (by omega) rfl, g 5 _ (by omega) rfl, g 6 _ (by omega) rfl, g 7 _ (by omega) rfl⟩

/-- The checker's block. -/
abbrev Chk (w : World) (cb : Nat) (A : Option Addr) (N c : Nat) (a : Int) (rl : Value) : Prop := Blk w cb 117 #[.slice A N c, .int .i64 a, rl]
theorem Chk.cells {w : World} {cb : Nat} {A : Option Addr} {N c : Nat} {a : Int} {rl : Value} (h : Chk w cb A N c a rl) : w.cell? ⟨cb, 0, none⟩ = some (.slice A N c) ∧ w.cell? ⟨cb, 1, none⟩ = some (.int .i64 a) ∧ w.cell? ⟨cb, 2, none⟩ = some rl :=
  ⟨(h.cell 0).trans rfl, (h.cell 1).trans rfl, (h.cell 2).trans rfl⟩
theorem Chk.set {w : World} {cb : Nat} {A : Option Addr} {N c : Nat} {a : Int} {rl : Value} (h : Chk w cb A N c a rl) (a2 : Int) : Chk (w.setCell ⟨cb, 1, none⟩ (.int .i64 a2)) cb A N c a2 rl := Blk.set_ h 1 (.int .i64 a2)

/-- Behind shape: where it stands, or how it ended. -/
def ShapeQ (R : Rs (List Tn × Nat)) (cb : Nat) (A : Option Addr) (N c : Nat) (rl : Value) (w : World) (e : Ending) (w' : World) : Prop := Bt cb w w' ∧ match R with
  | .ok p => e = .returned (.tuple #[]) ∧ Chk w' cb A N c p.2 rl
  | .bad E x => e = Flaw E x

theorem ShapeQ.bad {E : Int} {x : Nat} {cb : Nat} {A : Option Addr} {N c : Nat} {rl : Value} {w w' : World} (h : Bt cb w w') : ShapeQ (.bad E x) cb A N c rl w (.panicked [{ v := .iface 111 (.agg #[.int .i64 E, .int .i64 x]), recovered := false }]) w' := ⟨h, rfl⟩
theorem shq_rest {d : Nat} {L : List Tn} {a : Nat} {l' : List Tn} {a' : Nat} (ha : a ≤ L.length) (h : shq d (L.drop a) a = .ok (l', a')) : l' = L.drop a' ∧ a' ≤ L.length ∧ a < a' := by
  obtain ⟨n, k, hw, _, h1, rfl⟩ := shq_tree _ _ _ _ _ h
  have hl := congrArg List.length h1
  simp only [List.length_drop, List.length_cons, List.length_append, Tf.list_len] at hl
  refine ⟨?_, by omega, by omega⟩
  have h2 : (L.drop a).drop (1 + k.sz) = l' := by
    rw [h1, show n :: (k.list ++ l') = (n :: k.list) ++ l' by simp, List.drop_append_of_le_length (by simp [Tf.list_len]; omega), List.drop_of_length_le (by simp [Tf.list_len]; omega)]
    rfl
  rw [List.drop_drop] at h2
  rw [← h2]
  congr 1; omega

section
variable (L : List Tn) (A : Option Addr) (c : Nat) (rl : Value) (cb : Nat)
set_option maxRecDepth 100000 in
theorem shape_end (q : Int) (w : World) (hc : Chk w cb A L.length c L.length rl) (hN : L.length ≤ 1000000) :
    Calls Tryz.prog 52 #[.pointer (some ⟨cb, 0, none⟩), .int .i64 q] w fun e w' => ShapeQ (.bad 18 L.length) cb A L.length c rl w e w' := by
  unfold ShapeQ
  obtain ⟨c0, c1, c2⟩ := hc.cells
  have h1 : decide ((L.length : Int) < (L.length : Int)) = false := by simp
  clear hc
  go_enter Tryz.func52, Tryz.ntmps52
  go_wp2_with fail
  (refine (need_no 18 _ _).mono ?_); rintro e w' ⟨rfl, rfl⟩
  unfold Flaw
  go_wp2_with fail
  exact bodyPost_panic rfl ⟨But.refl _ _, rfl⟩
end

/-- Does the node pass, in the program's order? -/
theorem goodN_cases (n : Tn) : (goodN n = false ∧ (arK n.kd = -2 ∨ n.kids < 0 ∨ (0 ≤ n.kids ∧ arK n.kd ≠ -2 ∧ arK n.kd ≠ -1 ∧ arK n.kd ≠ n.kids))) ∨ (goodN n = true ∧ 0 ≤ n.kids ∧ arK n.kd ≠ -2 ∧ (arK n.kd = -1 ∨ (arK n.kd ≠ -1 ∧ arK n.kd = n.kids))) := by
  by_cases h : goodN n = true
  · right
    obtain ⟨h1, h2, h3⟩ := goodN_iff.1 h
    refine ⟨h, h2, h1, ?_⟩
    by_cases h4 : arK n.kd = -1
    · exact .inl h4
    · exact .inr ⟨h4, h3.resolve_left h4⟩
  · left
    refine ⟨by simpa using h, ?_⟩
    by_cases h1 : arK n.kd = -2
    · exact .inl h1
    by_cases h2 : n.kids < 0
    · exact .inr (.inl h2)
    · refine .inr (.inr ⟨by omega, h1, fun h3 => h (goodN_iff.2 ⟨h1, by omega, .inl h3⟩), fun h3 => h (goodN_iff.2 ⟨h1, by omega, .inr h3⟩)⟩)

set_option maxRecDepth 100000 in
set_option maxHeartbeats 4000000 in
theorem shape_node (L : List Tn) (A : Option Addr) (c : Nat) (rl : Value) (cb : Nat) (a q : Nat) (n : Tn) (d : Nat) (w : World) (hn : L[a]? = some n) (hc : Chk w cb A L.length c a rl) (hL : LT w cb A L) (hN : L.length ≤ 1000000) (hLc : L.length ≤ c) (hq : q + d = 1025)
    (ih : ∀ d', d = d' + 1 → ∀ a' w, a' ≤ L.length → Chk w cb A L.length c a' rl → LT w cb A L → Calls Tryz.prog 52 #[.pointer (some ⟨cb, 0, none⟩), .int .i64 (q + 1 : Nat)] w fun e w' => ShapeQ (shq d' (L.drop a') a') cb A L.length c rl w e w') :
    Calls Tryz.prog 52 #[.pointer (some ⟨cb, 0, none⟩), .int .i64 (q : Nat)] w fun e w' => ShapeQ (shq d (n :: L.drop (a + 1)) a) cb A L.length c rl w e w' := by
  obtain ⟨c0, c1, c2⟩ := hc.cells
  have hcl : cb < w.heap.size := hc.lt
  have hal : a < L.length := (List.getElem?_eq_some_iff.1 hn).1
  obtain ⟨b, o, rfl, hbc, hbl, q0, q1, q2, q3, q4, q5, q6, q7⟩ := hL.node hn
  obtain ⟨kd, kids, nn, s, t, u, ln, cl⟩ := n
  simp only at q0 q1 q2 q3 q4 q5 q6 q7
  have har := fun W => arityK_any kd W
  unfold ArQ at har
  have hgc := goodN_cases ⟨kd, kids, nn, s, t, u, ln, cl⟩
  simp only at hgc
  obtain ⟨R, hR⟩ : ∃ R, shq d ((⟨kd, kids, nn, s, t, u, ln, cl⟩ : Tn) :: L.drop (a + 1)) a = R := ⟨_, rfl⟩
  rw [hR]
  have hR0 : d = 0 → goodN ⟨kd, kids, nn, s, t, u, ln, cl⟩ = true → R = .bad 16 a := fun h0 hg => by subst h0; rw [← hR]; simp only [shq]; rw [if_pos hg]
  have hRb : goodN ⟨kd, kids, nn, s, t, u, ln, cl⟩ = false → R = .bad 18 a := fun hg => by rw [← hR]; cases d <;> (simp only [shq]; rw [if_neg (by rw [hg]; simp)])
  have hRd : ∀ d', d = d' + 1 → goodN ⟨kd, kids, nn, s, t, u, ln, cl⟩ = true → R = loopQ (shq d') kids.toNat (L.drop (a + 1)) (a + 1) := fun d' hd hg => by subst hd; rw [← hR]; simp only [shq]; rw [if_pos hg]
  obtain ⟨N, hNe⟩ : ∃ N, L.length = N := ⟨_, rfl⟩
  rw [hNe] at c0 hal hN hLc hc ih ⊢
  have h1 : decide ((a : Int) < (N : Int)) = true := by simp; omega
  have hbk : Blk (w.alloc (.cells #[.int .i8 kd, .int .i64 kids, .int .i64 nn, .string s, .string t, .string u, .int .i64 ln, .int .i64 cl] 60)) w.heap.size 60 #[.int .i8 kd, .int .i64 kids, .int .i64 nn, .string s, .string t, .string u, .int .i64 ln, .int .i64 cl] := Blk.new _ _ _
  have hc' : Chk (w.alloc (.cells #[.int .i8 kd, .int .i64 kids, .int .i64 nn, .string s, .string t, .string u, .int .i64 ln, .int .i64 cl] 60)) cb (some ⟨b, o, none⟩) N c a rl := Blk.alloc hc _
  have HW := Lib.hid (And.intro hc' (And.intro hbk (And.intro hL (And.intro hcl hNe))))
  have HAR := Lib.hid har
  have HGC := Lib.hid hgc
  have HR := Lib.hid (And.intro hR0 (And.intro hRb hRd))
  have HIH := Lib.hid ih
  clear hc hc' hbk hL har hgc hR hR0 hRb hRd ih hn hNe
  go_enter Tryz.func52, Tryz.ntmps52
  go_wp2_with fail
  (refine (need_yes 18 _ _).mono ?_); rintro e w' ⟨rfl, rfl⟩
  go_upto_region 3 with fail
  obtain ⟨W1, hW1⟩ : ∃ W1, w.alloc (.cells #[.int .i8 kd, .int .i64 kids, .int .i64 nn, .string s, .string t, .string u, .int .i64 ln, .int .i64 cl] 60) = W1 := ⟨_, rfl⟩
  obtain ⟨hc1, hb1, hL, hcl', hNe⟩ := HW.out
  rw [hW1] at hc1 hb1 ⊢
  have hbt1 : Bt cb w W1 := by rw [← hW1]; exact Bt.alloc (But.refl _ _) _
  have HW1 := Lib.hid (And.intro hc1 (And.intro hb1 (And.intro hL (And.intro hNe hbt1))))
  obtain ⟨p0, p1, p2⟩ := hc1.cells
  have n0 := (hb1.cell 0).trans rfl
  have n1 := (hb1.cell 1).trans rfl
  have hf1 := hc1.frozen 1
  clear hc1 hb1 hL hcl' hNe hbt1 hW1 c0 c1 c2 q0 q1 q2 q3 q4 q5 q6 q7 HW
  rcases HGC.out with ⟨hg, hcs⟩ | ⟨hg, hk0, h2, hcs⟩
  · have hRb := HR.out.2.1 hg
    subst hRb
    have HB := Lib.hid (HW1.out.2.2.2.2)
    rcases hcs with h2 | hk | ⟨hk, h2, h3, h4⟩
    · rw [h2] at HAR
      go_wp2_with fail
      (refine (HAR.out _).mono ?_); rintro e w' ⟨rfl, rfl⟩
      go_wp2_with fail
      (refine (need_no 18 _ _).mono ?_); rintro e w' ⟨rfl, rfl⟩
      unfold Flaw
      go_wp2_with fail
      exact bodyPost_panic rfl (ShapeQ.bad HB.out)
    · have hk0 : decide (0 ≤ kids) = false := by simp; omega
      obtain ⟨ak, hak⟩ : ∃ x, arK kd = x := ⟨_, rfl⟩
      rw [hak] at HAR
      by_cases h2 : ak = -2
      · subst h2
        go_wp2_with fail
        (refine (HAR.out _).mono ?_); rintro e w' ⟨rfl, rfl⟩
        go_wp2_with fail
        (refine (need_no 18 _ _).mono ?_); rintro e w' ⟨rfl, rfl⟩
        unfold Flaw
        go_wp2_with fail
        exact bodyPost_panic rfl (ShapeQ.bad HB.out)
      · rw [if_neg h2] at HAR
        have h5 : (ak != -2) = true := by simpa using h2
        rw [h5] at HAR
        go_wp2_with fail
        (refine (HAR.out _).mono ?_); rintro e w' ⟨rfl, rfl⟩
        go_wp2_with fail
        (refine (need_no 18 _ _).mono ?_); rintro e w' ⟨rfl, rfl⟩
        unfold Flaw
        go_wp2_with fail
        exact bodyPost_panic rfl (ShapeQ.bad HB.out)
    · have hk0 : decide (0 ≤ kids) = true := by simpa using hk
      obtain ⟨ak, hak⟩ : ∃ x, arK kd = x := ⟨_, rfl⟩
      rw [hak] at HAR h2 h3 h4
      rw [if_neg h2] at HAR
      have h5 : (ak != -2) = true := by simpa using h2
      rw [h5] at HAR
      have h6 : (ak == -1) = false := by simpa using h3
      have h7 : (ak == kids) = false := by simpa using h4
      go_wp2_with fail
      (refine (HAR.out _).mono ?_); rintro e w' ⟨rfl, rfl⟩
      go_wp2_with fail
      (refine (need_no 18 _ _).mono ?_); rintro e w' ⟨rfl, rfl⟩
      unfold Flaw
      go_wp2_with fail
      exact bodyPost_panic rfl (ShapeQ.bad HB.out)
  · have hk1 : decide (0 ≤ kids) = true := by simpa using hk0
    obtain ⟨ak, hak⟩ : ∃ x, arK kd = x := ⟨_, rfl⟩
    rw [hak] at HAR h2 hcs
    rw [if_neg h2] at HAR
    have h5 : (ak != -2) = true := by simpa using h2
    rw [h5] at HAR
    have HCS := Lib.hid hcs
    clear hcs hak h2
    go_wp2_with fail
    (refine (HAR.out _).mono ?_); rintro e w' ⟨rfl, rfl⟩
    go_upto_region 4 with fail
    go_cut [7] from 34 to 51 (fun i wx => i = .bool true ∧ wx = W1)
    case first =>
      rcases HCS.out with h3 | ⟨h3, h4⟩
      · subst h3
        go_wp2_with fail
        (refine (need_yes 18 _ _).mono ?_); rintro e w' ⟨rfl, rfl⟩
        go_wp2_with fail
        go_meet
        case rel => exact ⟨rfl, rfl⟩
      · subst h4
        have h6 : (ak == -1) = false := by simpa using h3
        go_wp2_with fail
        (refine (need_yes 18 _ _).mono ?_); rintro e w' ⟨rfl, rfl⟩
        go_wp2_with fail
        go_meet
        case rel => exact ⟨rfl, rfl⟩
    case rest =>
      obtain ⟨rfl, rfl⟩ := hcut
      cases d with
      | zero =>
        have hRb := HR.out.1 rfl hg
        subst hRb
        obtain rfl : q = 1025 := by omega
        go_wp2_with fail
        (refine (need_no 16 _ _).mono ?_); rintro e w' ⟨rfl, rfl⟩
        unfold Flaw
        go_wp2_with fail
        exact bodyPost_panic rfl (ShapeQ.bad HW1.out.2.2.2.2)
      | succ d =>
        have hRd := HR.out.2.2 d rfl hg
        have HRD := Lib.hid hRd
        have hqd : decide ((q : Int) ≤ 1024) = true := by simp; omega
        clear hRd HR HGC HCS HAR
        obtain ⟨K, hK⟩ : ∃ K : Nat, kids = K := ⟨kids.toNat, by omega⟩
        subst hK
        rw [Int.toNat_natCast] at HRD
        go_wp2_with fail
        (refine (need_yes 16 _ _).mono ?_); rintro e w' ⟨rfl, rfl⟩
        go_wp2_with fail
        obtain ⟨hc1, hb1, hL, hNe, hbt1⟩ := HW1.out
        obtain ⟨W2, hW2⟩ : ∃ W2, wc.setCell ⟨cb, 1, none⟩ (.int .i64 ((a : Int) + 1)) = W2 := ⟨_, rfl⟩
        rw [hW2]
        have hc2 : Chk W2 cb (some ⟨b, o, none⟩) N c ((a : Int) + 1) rl := by rw [← hW2]; exact hc1.set _
        have hb2 : Blk W2 w.heap.size 60 #[.int .i8 kd, .int .i64 K, .int .i64 nn, .string s, .string t, .string u, .int .i64 ln, .int .i64 cl] := by rw [← hW2]; exact hb1.far (p := ⟨cb, 1, none⟩) (show w.heap.size ≠ cb by omega) _
        have hbt2 : Bt cb w W2 := by rw [← hW2]; exact hbt1.set_ 1 _
        have HW2 := Lib.hid (And.intro hc2 (And.intro hb2 (And.intro hbt2 (And.intro hL hNe))))
        clear hW2 hc1 hb1 hL hNe hbt1 p0 p1 p2 n0 n1 hf1
        have n1 := (hb2.cell 1).trans rfl
        clear hc2 hb2 hbt2
        go_wp2_with fail
        go_loopg [65] K (fun g u wr => ∃ (m a' : Nat), m ≤ K ∧ g = K - m ∧ u = .int .i64 m ∧ (a' ≤ N ∧ m ≤ a') ∧ Bt cb w wr ∧ Chk wr cb (some ⟨b, o, none⟩) N c a' rl ∧ loopQ (shq d) (K - m) (L.drop a') a' = R)
        case atStart => exact ⟨0, a + 1, by omega, rfl, rfl, ⟨by omega, by omega⟩, HW2.out.2.2.1, by simpa using HW2.out.1, by rw [HRD.out]; rfl⟩
        case round =>
          obtain ⟨m, a', hm, rfl, rfl, ⟨ha', hma⟩, hbt, hck, hq2⟩ := hrel
          have HQ2 := Lib.hid hq2
          have HBT := Lib.hid hbt
          have HCK := Lib.hid hck
          clear hq2 hbt hck n1
          by_cases hlt : m < K
          · have hcall := HIH.out d rfl a' wr ha' HCK.out (HW2.out.2.2.2.1.bt HBT.out)
            obtain ⟨mm, hmm⟩ : ∃ mm, K - m = mm + 1 := ⟨K - m - 1, by omega⟩
            have hq3 := HQ2.out
            rw [hmm] at hq3
            simp only [loopQ] at hq3
            obtain ⟨RR, hRR⟩ : ∃ RR, shq d (L.drop a') a' = RR := ⟨_, rfl⟩
            rw [hRR] at hcall hq3
            rw [show ((q + 1 : Nat) : Int) = (q : Int) + 1 by omega] at hcall
            have HQ3 := Lib.hid hq3
            have HRR := Lib.hid hRR
            have HCALL := Lib.hid hcall
            clear hq3 hcall hRR
            go_wp2_with fail
            (refine HCALL.out.mono ?_); rintro e w3 ⟨hb3, hq4⟩
            cases RR with
            | bad E x =>
              simp only at hq4
              subst hq4
              have hq5 := HQ3.out
              simp only at hq5
              subst hq5
              have HB3 := Lib.hid (HBT.out.trans hb3)
              clear hb3
              unfold Flaw
              go_wp2_with fail
              exact bodyPost_panic rfl (ShapeQ.bad HB3.out)
            | ok p =>
              obtain ⟨l', a2⟩ := p
              obtain ⟨rfl, hck3⟩ := hq4
              have hq5 := HQ3.out
              simp only at hq5 hck3
              obtain ⟨rfl, ha2, ha3⟩ := shq_rest (by rw [HW2.out.2.2.2.2]; exact ha') HRR.out
              rw [HW2.out.2.2.2.2] at ha2
              have HB3 := Lib.hid (And.intro (HBT.out.trans hb3) (And.intro hck3 hq5))
              clear hb3 hck3 hq5
              go_wp2_with fail
              go_roundg (K - (m + 1))
              case measure => omega
              case rel => exact ⟨m + 1, a2, by omega, rfl, by go_num, ⟨ha2, by omega⟩, HB3.out.1, HB3.out.2.1, by rw [show K - (m + 1) = mm by omega]; exact HB3.out.2.2⟩
          · obtain rfl : m = K := by omega
            have hq3 := HQ2.out
            rw [Nat.sub_self] at hq3
            simp only [loopQ] at hq3
            subst hq3
            go_wp2_with fail
            go_end0
            exact ⟨HBT.out, rfl, HCK.out⟩

theorem shape_any (L : List Tn) (A : Option Addr) (c : Nat) (rl : Value) (cb : Nat) (hN : L.length ≤ 1000000) (hLc : L.length ≤ c) : ∀ (d q a : Nat) (w : World), q + d = 1025 → a ≤ L.length → Chk w cb A L.length c a rl → LT w cb A L →
    Calls Tryz.prog 52 #[.pointer (some ⟨cb, 0, none⟩), .int .i64 (q : Nat)] w fun e w' => ShapeQ (shq d (L.drop a) a) cb A L.length c rl w e w' := by
  intro d
  induction d with
  | zero =>
    intro q a w hq ha hc hL
    rcases Nat.lt_or_ge a L.length with h | h
    · rw [List.drop_eq_getElem_cons h]
      exact shape_node L A c rl cb a q _ 0 w (List.getElem?_eq_getElem h) hc hL hN hLc hq (fun d' hd => by omega)
    · obtain rfl : a = L.length := by omega
      rw [List.drop_eq_nil_of_le (Nat.le_refl _)]
      have e : shq 0 [] L.length = .bad 18 L.length := by rw [shq]
      rw [e]
      exact shape_end L A c rl cb q w hc hN
  | succ d ih =>
    intro q a w hq ha hc hL
    rcases Nat.lt_or_ge a L.length with h | h
    · rw [List.drop_eq_getElem_cons h]
      exact shape_node L A c rl cb a q _ (d + 1) w (List.getElem?_eq_getElem h) hc hL hN hLc hq (fun d' hd a' w ha' hc hL => by
        obtain rfl : d = d' := by omega
        exact ih (q + 1) a' w (by omega) ha' hc hL)
    · obtain rfl : a = L.length := by omega
      rw [List.drop_eq_nil_of_le (Nat.le_refl _)]
      have e : shq (d + 1) [] L.length = .bad 18 L.length := by rw [shq]
      rw [e]
      exact shape_end L A c rl cb q w hc hN
end Go.Proofs.YtmagljnlfponaaaGreat.K

/- RelN -/
namespace Go.Proofs.YtmagljnlfponaaaGreat.T

/-- Ground's letters. -/
def groundL (T : Ty) : List UInt8 := if T.head = 63 then [] else T.head :: List.replicate (arB T.head).toNat 63
/-- Is it its own ground? (no part of it is known) -/
def bare (T : Ty) : Bool := T.kids.all fun k => k.head == 63

/-- What is a step less precise. -/
def looserT : Ty → List Ty
  | .leaf h => if h = 63 then [] else [.leaf 63]
  | .un h a => if a.head = 63 then [.leaf 63] else (looserT a).map (.un h)
  | .bin h a b => if a.head = 63 ∧ b.head = 63 then [.leaf 63] else (looserT a).map (.bin h · b) ++ (looserT b).map (.bin h a ·)

theorem looser_ok {T : Ty} (h : T.ok) : ∀ q ∈ looserT T, q.ok := by
  have h63 : (Ty.leaf 63).ok := by show arB 63 = 0; decide
  induction T with
  | leaf a => intro q hq; simp only [looserT] at hq; split at hq <;> simp at hq; subst hq; exact h63
  | un a t ih =>
    intro q hq
    simp only [looserT] at hq
    split at hq
    · simp at hq; subst hq; exact h63
    · obtain ⟨r, hr, rfl⟩ := List.mem_map.1 hq
      exact ⟨h.1, ih h.2 r hr⟩
  | bin a t u iht ihu =>
    intro q hq
    simp only [looserT] at hq
    split at hq
    · simp at hq; subst hq; exact h63
    · rcases List.mem_append.1 hq with hq | hq
      · obtain ⟨r, hr, rfl⟩ := List.mem_map.1 hq
        exact ⟨h.1, iht h.2.1 r hr, h.2.2⟩
      · obtain ⟨r, hr, rfl⟩ := List.mem_map.1 hq
        exact ⟨h.1, h.2.1, ihu h.2.2 r hr⟩

theorem looser_len {T : Ty} : ∀ q ∈ looserT T, q.code.length ≤ T.code.length := by
  induction T with
  | leaf a => intro q hq; simp only [looserT] at hq; split at hq <;> simp at hq; subst hq; simp [Ty.code]
  | un a t ih =>
    intro q hq
    simp only [looserT] at hq
    split at hq
    · simp at hq; subst hq; simp [Ty.code]
    · obtain ⟨r, hr, rfl⟩ := List.mem_map.1 hq
      have := ih r hr
      simp [Ty.code]; omega
  | bin a t u iht ihu =>
    intro q hq
    simp only [looserT] at hq
    split at hq
    · simp at hq; subst hq; simp [Ty.code]
    · rcases List.mem_append.1 hq with hq | hq
      · obtain ⟨r, hr, rfl⟩ := List.mem_map.1 hq
        have := iht r hr
        simp [Ty.code]; omega
      · obtain ⟨r, hr, rfl⟩ := List.mem_map.1 hq
        have := ihu r hr
        simp [Ty.code]; omega

theorem looser_many (T : Ty) : (looserT T).length ≤ T.code.length := by
  induction T with
  | leaf a => simp only [looserT]; split <;> simp [Ty.code]
  | un a t ih => simp only [looserT]; split <;> simp [Ty.code] <;> omega
  | bin a t u iht ihu => simp only [looserT]; split <;> simp [Ty.code] <;> omega

theorem code_ground {T : Ty} (h : T.ok) (hq : T.head ≠ 63) : (T.code = groundL T) ↔ bare T = true := by
  unfold groundL
  rw [if_neg hq]
  have ha := Ty.ar_head h
  rw [ha]
  have kq : ∀ k ∈ T.kids, k.head = 63 → k.code = [63] := fun k hk e => by rw [head63 (Ty.kids_ok h hk) e]; rfl
  cases T with
  | leaf a => simp [Ty.code, Ty.head, Ty.kids, bare]
  | un a t =>
    simp only [Ty.code, Ty.head, Ty.kids, bare, List.all_cons, List.all_nil, Bool.and_true, beq_iff_eq, List.cons.injEq, true_and]
    constructor
    · intro e
      have := Ty.code_head t
      rw [e] at this
      exact (Option.some.inj this).symm
    · intro e; rw [kq t (by simp [Ty.kids]) e]; rfl
  | bin a t u =>
    simp only [Ty.code, Ty.head, Ty.kids, bare, List.all_cons, List.all_nil, Bool.and_true, Bool.and_eq_true, beq_iff_eq, List.cons.injEq, true_and]
    constructor
    · intro e
      have h1 := t.code_pos
      have h2 := u.code_pos
      have hl := congrArg List.length e
      simp at hl
      have l1 : t.code.length = 1 := by omega
      have l2 : u.code.length = 1 := by omega
      have ht := Ty.code_head t
      have hu := Ty.code_head u
      obtain ⟨x, hx⟩ : ∃ x, t.code = [x] := List.length_eq_one_iff.1 l1
      obtain ⟨y, hy⟩ : ∃ y, u.code = [y] := List.length_eq_one_iff.1 l2
      rw [hx] at e ht
      rw [hy] at e hu
      simp [List.replicate] at e
      simp at ht hu
      exact ⟨ht.symm.trans e.1, hu.symm.trans e.2⟩
    · rintro ⟨e1, e2⟩; rw [kq t (by simp [Ty.kids]) e1, kq u (by simp [Ty.kids]) e2]; rfl

/-- The letters of what is looser by a step in part j: what stands ahead of it, its step, what stands behind it. -/
def loosJ (T : Ty) (j : Nat) : List (List UInt8) := match T.kids[j]? with
  | some k => (looserT k).map fun q => T.code.take (1 + clen T.kids j) ++ q.code ++ T.code.drop (1 + clen T.kids j + k.code.length)
  | none => []

theorem looser_kids {T : Ty} (h : T.ok) (hq : T.head ≠ 63) (hb : bare T = false) : (looserT T).map Ty.code = (List.range T.kids.length).flatMap (loosJ T) := by
  cases T with
  | leaf a => simp [bare, Ty.kids] at hb
  | un a t =>
    simp [bare, Ty.kids] at hb
    simp [looserT, hb, loosJ, Ty.kids, Ty.code, clen, List.range_succ, Function.comp_def]
    intro _ _
    omega
  | bin a t u =>
    have hb' : ¬ (t.head = 63 ∧ u.head = 63) := by simpa [bare, Ty.kids] using hb
    simp only [looserT, if_neg hb', List.map_append, List.map_map]
    simp [loosJ, Ty.kids, Ty.code, clen, List.range_succ, Function.comp_def]
    rw [show 1 + t.code.length = t.code.length + 1 by omega]
    simp only [List.drop_succ_cons, List.take_succ_cons, List.drop_left, List.take_left, List.cons_append, List.append_assoc]
    rw [show t.code.length + 1 + u.code.length = (t.code.length + u.code.length) + 1 by omega, List.drop_succ_cons, ← List.length_append, List.drop_length]
    simp

theorem looser_bare {T : Ty} (h : T.ok) (hq : T.head ≠ 63) (hb : bare T = true) : looserT T = [.leaf 63] := by
  cases T with
  | leaf a => exact if_neg hq
  | un a t => have : t.head = 63 := by simpa [bare, Ty.kids] using hb
              exact if_pos this
  | bin a t u => have : t.head = 63 ∧ u.head = 63 := by simpa [bare, Ty.kids] using hb
                 exact if_pos this
theorem looser_dyn {T : Ty} (h : T.ok) (hq : T.head = 63) : looserT T = [] := by rw [head63 h hq]; rfl

end Go.Proofs.YtmagljnlfponaaaGreat.T
