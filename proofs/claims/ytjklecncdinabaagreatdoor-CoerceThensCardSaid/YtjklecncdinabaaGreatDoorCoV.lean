/- Contract: the answer's read, Read. -/
import Derived.Test.YtjklecncdinabaaGreatDoorCoN
import Derived.Test.YtjklecncdinabaaGreatDoorCoH
namespace Go.Proofs.YtjklecncdinabaaGreatDoor.C
open Go.RowKit Go.Proofs.YtjklecncdinabaaGreatDoor.B
set_option linter.unusedVariables false
set_option linter.unusedSimpArgs false

/-! ### Rows of the answer's trees -/
def trf : List Co → List Value → List Value
  | t :: ts, s :: ss => trc t s ++ trf ts ss
  | _, _ => []
theorem trf_snoc : ∀ {ts : List Co} {ss : List Value} (t : Co) (s : Value), ts.length = ss.length → trf (ts ++ [t]) (ss ++ [s]) = trf ts ss ++ trc t s
  | [], [], t, s, _ => by simp [trf]
  | [], _ :: _, t, s, h => by simp at h
  | _ :: _, [], t, s, h => by simp at h
  | a :: ts, b :: ss, t, s, h => by
    simp only [List.cons_append, trf, List.append_assoc]
    rw [trf_snoc t s (by simpa using h)]
def KidsR (w : World) (D : Nat → Prop) (g : Nat) (V : Value) (ts : List Co) : Prop := ∃ (ss : List Value) (C : Nat → Prop), ss.length = ts.length ∧ w.ownsRow (g + 1) 31 8 V ts.length (trf ts ss) ∧
  (∀ b, C b → (D b ∨ g < b) ∧ b ≠ g ∧ b < w.heap.size ∧ V.ownBlock ≠ some b) ∧ ∀ (j : Nat) t s, ts[j]? = some t → ss[j]? = some s → TrS w C t s
theorem KidsR.nil (w : World) (D : Nat → Prop) (g : Nat) : KidsR w D g (.slice none 0 0) [] := ⟨[], fun _ => False, rfl, World.ownsRow_nil _ _ _ _, fun _ h => h.elim, fun j t v h => by simp at h⟩
theorem KidsR.below {w w' : World} {D : Nat → Prop} {g : Nat} {V : Value} {ts : List Co} (h : KidsR w D g V ts) (hb : Below w.heap.size w w') : KidsR w' D g V ts := by
  obtain ⟨ss, C, h0, h1, h2, h3⟩ := h
  exact ⟨ss, C, h0, own_below h1 hb, fun b hc => by have := h2 b hc; have := hb.size; exact ⟨(h2 b hc).1, (h2 b hc).2.1, by omega, (h2 b hc).2.2.2⟩, fun j t v ht hv => (h3 j t v ht hv).below hb⟩
theorem KidsR.set_ {w : World} {D : Nat → Prop} {g : Nat} {V : Value} {ts : List Co} (h : KidsR w D g V ts) (i : Nat) (u : Value) : KidsR (w.setCell ⟨g, i, none⟩ u) D g V ts := by
  obtain ⟨ss, C, h0, h1, h2, h3⟩ := h
  refine ⟨ss, C, h0, ⟨h1.1, ?_⟩, fun b hc => ?_, fun j t v ht hv => (h3 j t v ht hv).stay (.set_ fun b hb => ((h2 b hb).2.1).symm) fun _ h => h⟩
  · rcases h1.2 with h4 | ⟨b, cap, cur, hv, hbg, hg, r⟩
    · exact .inl h4
    · exact .inr ⟨b, cap, cur, hv, hbg, (Below.heap_setCell w ⟨g, i, none⟩ u b (by simp only; omega)).trans hg, r⟩
  · have := h2 b hc
    refine ⟨this.1, this.2.1, ?_, this.2.2.2⟩
    rw [World.size_setCell]; exact this.2.2.1
theorem KidsR.push {w wm w1 w2 : World} {D : Nat → Prop} {g : Nat} {V V' : Value} {ts : List Co} {ss : List Value} {C : Nat → Prop} {t : Co} {s : Value} {D' : Nat → Prop} (h0 : ss.length = ts.length)
    (h1 : w.ownsRow (g + 1) 31 8 V ts.length (trf ts ss)) (h2 : ∀ b, C b → (D b ∨ g < b) ∧ b ≠ g ∧ b < w.heap.size ∧ V.ownBlock ≠ some b) (h3 : ∀ (j : Nat) t s, ts[j]? = some t → ss[j]? = some s → TrS w C t s)
    (hbm : Below w.heap.size w wm) (ht : TrS wm D' t s) (hD : ∀ b, D' b → (D b ∨ g < b) ∧ b ≠ g ∧ V.ownBlock ≠ some b)
    (hb1 : Below wm.heap.size wm w1) (ho : w2.ownsRow (g + 1) 31 8 V' (ts.length + 1) (trf ts ss ++ trc t s)) (hg : w1.grownBy w2 V.ownBlock) (hV : V'.ownBlock = V.ownBlock ∨ V'.ownBlock = some w1.heap.size) : KidsR w2 D g V' (ts ++ [t]) := by
  have hb : Below w.heap.size w w1 := bl hbm hb1
  have hs := hb.size
  have hsm := hbm.size
  have hs1 := hb1.size
  have hs2 := hg.size
  refine ⟨ss ++ [s], fun b => C b ∨ (D' b ∧ b < wm.heap.size), by simp [h0], by rw [trf_snoc t s h0.symm]; simpa using ho, fun b hc => ?_, fun j u x hu hx => ?_⟩
  · have hlt : b < wm.heap.size := hc.elim (fun h => by have := (h2 b h).2.2.1; omega) (fun h => h.2)
    have hne : V.ownBlock ≠ some b := hc.elim (fun h => (h2 b h).2.2.2) (fun h => (hD b h.1).2.2)
    refine ⟨hc.elim (fun h => (h2 b h).1) (fun h => (hD b h.1).1), hc.elim (fun h => (h2 b h).2.1) (fun h => (hD b h.1).2.1), by omega, ?_⟩
    rcases hV with e | e
    · rw [e]; exact hne
    · rw [e]; intro e2; injection e2 with e2; omega
  · have st : ∀ (C' : Nat → Prop), (∀ b, C' b → V.ownBlock ≠ some b) → Stay C' w w2 := fun C' hC' => (Stay.below hb).trans (Stay.grown hg hC') hs
    by_cases hj : j < ts.length
    · rw [List.getElem?_append_left hj] at hu
      rw [List.getElem?_append_left (by omega)] at hx
      exact (h3 j u x hu hx).stay (st C fun b hb => (h2 b hb).2.2.2) fun _ h => .inl h
    · have hj2 : j = ts.length := by
        have := (List.getElem?_eq_some_iff.1 hu).1
        simp at this; omega
      subst hj2
      rw [List.getElem?_append_right (Nat.le_refl _)] at hu
      rw [List.getElem?_append_right (by omega)] at hx
      simp at hu
      rw [h0] at hx
      simp at hx
      subst hu hx
      exact (ht.lt).stay ((Stay.below hb1).trans (Stay.grown hg fun b hb => (hD b hb.1).2.2) hs1) fun _ h => .inr h
theorem own_sl8 {w : World} {base n c : Nat} {e : TypeId} {A : Option Addr} {xs : List Value} (h : w.ownsRow base e 8 (.slice A n c) n xs) : Kd w (base ≤ ·) A xs := by
  rcases h.2 with ⟨h1, h2⟩ | ⟨g, cap, cur, hv, hbg, _⟩
  · left; subst h2; exact List.eq_nil_of_length_eq_zero (by simpa using h.1)
  · injection hv with hA _ _
    subst hA
    right
    refine ⟨g, 0, rfl, hbg, fun j u hu => ?_⟩
    have := h.cells (g := g) rfl j u hu
    rwa [add_flat] at this
theorem KidsR.part {w : World} {D E : Nat → Prop} {g : Nat} {V : Value} {ts : List Co} (h : KidsR w D g V ts) {hd : Int} (hl : ts.length = opsN hd) (hE : ∀ b, D b ∨ g < b → E b) (pj : Int) (ij : Bool) :
    TrS w E (.part pj ij hd (ts.getD 0 .any) (ts.getD 1 .any)) V := by
  obtain ⟨ss, C, h0, h1, h2, h3⟩ := h
  obtain ⟨A, c, rfl, hc1, hc2⟩ := own_shape h1
  have hk := own_sl8 h1
  have one : ∀ j, TrS w E (ts.getD j .any) (ss.getD j (.slice none 0 0)) := by
    intro j
    by_cases hj : j < ts.length
    · have e1 : ts[j]? = some (ts.getD j .any) := by rw [List.getD_eq_getElem?_getD, List.getElem?_eq_getElem hj]; rfl
      have e2 : ss[j]? = some (ss.getD j (.slice none 0 0)) := by rw [List.getD_eq_getElem?_getD, List.getElem?_eq_getElem (show j < ss.length by omega)]; rfl
      exact (h3 j _ _ e1 e2).mono fun b hb => hE b (h2 b hb).1
    · rw [List.getD_eq_getElem?_getD, List.getElem?_eq_none (by omega), List.getD_eq_getElem?_getD, List.getElem?_eq_none (by omega)]
      exact ⟨none, 0, rfl, by unfold maxLen; omega⟩
  refine ⟨A, c, ss.getD 0 (.slice none 0 0), ss.getD 1 (.slice none 0 0), by rw [← hl], by omega, hc2, ?_, one 0, one 1⟩
  have e : (trc (ts.getD 0 .any) (ss.getD 0 (.slice none 0 0)) ++ trc (ts.getD 1 .any) (ss.getD 1 (.slice none 0 0))).take (opsN hd * 8) = trf ts ss := by
    rcases opsN_le hd with h4 | h4 | h4
    · rw [h4] at hl ⊢
      match ts, ss, hl, h0 with
      | [], [], _, _ => rfl
    · rw [h4] at hl ⊢
      match ts, ss, hl, h0 with
      | [x], [y], _, _ =>
        show ((trc x y ++ _ : List Value)).take 8 = trc x y ++ []
        rw [List.append_nil]; rfl
    · rw [h4] at hl ⊢
      match ts, ss, hl, h0 with
      | [x, x2], [y, y2], _, _ => rfl
  rw [e]
  rcases hk with h | ⟨b, o, e1, e2, e3⟩
  · exact .inl h
  · exact .inr ⟨b, o, e1, hE b (.inr (by omega)), e3⟩
theorem KidsR.shape {w : World} {D : Nat → Prop} {g : Nat} {V : Value} {ts : List Co} (h : KidsR w D g V ts) : ∃ A c, V = .slice A ts.length c ∧ ts.length ≤ c ∧ c ≤ maxLen := by
  obtain ⟨ss, C, _, h1, _, _⟩ := h
  exact own_shape h1
/-- The tree that is made: its kids' field. -/
theorem KidsR.tree {w : World} {D E : Nat → Prop} {g : Nat} {V : Value} {ts : List Co} (h : KidsR w D g V ts) {n : Nd} (hg : goodB n = true) (hl : ts.length = kidsN n) (hE : ∀ b, D b ∨ g < b → E b) : TrS w E (mkT n ts) V := by
  obtain ⟨A, c, rfl, hc1, hc2⟩ := h.shape
  by_cases h1 : n.op = 1
  · have h0 : kidsN n = 0 := by unfold kidsN; rw [if_pos (.inl h1)]
    have he : mkT n ts = .any := by unfold mkT; rw [if_pos h1]
    rw [he, hl, h0]
    exact ⟨A, c, rfl, hc2⟩
  · by_cases h7 : n.op = 7
    · have h0 : kidsN n = 0 := by unfold kidsN; rw [if_pos (.inr h7)]
      have he : mkT n ts = .fail n.pj n.lb n.fr n.to := by unfold mkT; rw [if_neg h1, if_pos h7]
      rw [he, hl, h0]
      exact ⟨A, c, rfl, hc2⟩
    · have he : mkT n ts = .part n.pj n.ij n.hd (ts.getD 0 .any) (ts.getD 1 .any) := by unfold mkT; rw [if_neg h1, if_neg h7]
      rw [he]
      exact h.part (hl.trans (goodB_kids hg h1 h7).1) hE n.pj n.ij

theorem Sl.eight (w : World) (a b c d e f g h : Value) (T : TypeId) : Sl (w.alloc (.cells #[a, b, c, d, e, f, g, h] T)) (w.heap.size + 1) 8 (some ⟨w.heap.size, 0, none⟩) 1 [a, b, c, d, e, f, g, h] := by
  refine ⟨rfl, .inr ⟨w.heap.size, 0, rfl, by omega, fun j u hu => ?_⟩⟩
  have h := (Blk.new w T #[a, b, c, d, e, f, g, h]).cell j
  rw [Nat.zero_add, h]
  simpa using hu
theorem drop_suffix {α : Type} {L x r : List α} {a : Nat} (h : L.drop a = x ++ r) : L.drop (L.length - r.length) = r := by
  have h1 : L = (L.take a ++ x) ++ r := by rw [List.append_assoc, ← h, List.take_append_drop]
  have h2 : L.length = (L.take a ++ x).length + r.length := by rw [← List.length_append, ← h1]
  conv => lhs; rw [h1]
  rw [List.length_append, Nat.add_sub_cancel, List.drop_left]
theorem grK_mkT {n : Nd} {ts : List Co} {m : Nat} (h : goodB n = true) (hm : m < kidsN n) : grK (mkT n ts) m = kidB n.pj n.ij (turnd n.hd m) (ts.getD m .any) := by
  have h1 : n.op ≠ 1 := fun e => by unfold kidsN at hm; rw [if_pos (.inl e)] at hm; omega
  have h7 : n.op ≠ 7 := fun e => by unfold kidsN at hm; rw [if_pos (.inr e)] at hm; omega
  unfold grK
  rw [(mkT_nd h).1]
  have hk : (mkT n ts).kid m = ts.getD m .any := by
    unfold mkT
    rw [if_neg h1, if_neg h7]
    have := kidsN_le n
    simp only [Co.kid, kidT]
    rcases m with _ | _ | m
    · rfl
    · rfl
    · omega
  rw [hk]

/-- What the answer's read gives. N: the list's length. -/
def ReadRQ (N : Nat) (R : Option (Co × List Nd)) (w : World) (e : Ending) (w' : World) : Prop := Below w.heap.size w w' ∧ match R with
  | none => e = .returned (.tuple #[zeroTree, .int .i64 (-1)])
  | some (t, r) => ∃ s, e = .returned (.tuple #[TV t s, .int .i64 ((N - r.length : Nat) : Int)]) ∧ TrS w' (w.heap.size ≤ ·) t s

set_option maxRecDepth 100000 in
theorem readR_end (A : Option Addr) (N c at' q : Nat) (w : World) (hN : N ≤ 1000000000000) (h : N ≤ at') (hq : q ≤ 65) (ha : at' ≤ 1000000000000) : Calls Tryz.prog 19 #[.slice A N c, .int .i64 (at' : Nat), .int .i64 (q : Nat)] w fun e w' => ReadRQ N none w e w' := by
  unfold ReadRQ zeroTree
  have h1 : (N : Int) ≤ (at' : Int) := by omega
  go_enter Tryz.func19, Tryz.ntmps19
  go_wp2_with fail
  refine bodyPost_ret (v := .tuple #[(.agg #[.int .i8 0, .int .i64 0, .bool false, .int .u8 0, .int .i64 0, .int .u8 0, .int .u8 0, .slice none 0 0]), .int .i64 (-1)]) (by simp [results, Tryz.results19, go_sem]) rfl ?_
  exact ⟨bal b0 _, rfl⟩
set_option maxRecDepth 100000 in
theorem readR_deep (A : Option Addr) (N c at' : Nat) (w : World) (hN : N ≤ 1000000000000) (h : at' < N) : Calls Tryz.prog 19 #[.slice A N c, .int .i64 (at' : Nat), .int .i64 65] w fun e w' => ReadRQ N none w e w' := by
  unfold ReadRQ zeroTree
  have h1 : decide ((N : Int) ≤ (at' : Int)) = false := by simp; omega
  go_enter Tryz.func19, Tryz.ntmps19
  go_wp2_with fail
  refine bodyPost_ret (v := .tuple #[(.agg #[.int .i8 0, .int .i64 0, .bool false, .int .u8 0, .int .i64 0, .int .u8 0, .int .u8 0, .slice none 0 0]), .int .i64 (-1)]) (by simp [results, Tryz.results19, go_sem]) rfl ?_
  exact ⟨bal b0 _, rfl⟩

/-- A tree stored whole into its block. -/
def set8 (w : World) (g : Nat) (u0 u1 u2 u3 u4 u5 u6 u7 : Value) : World := ((((((((w.setCell ⟨g, 0, none⟩ u0).setCell ⟨g, 1, none⟩ u1).setCell ⟨g, 2, none⟩ u2).setCell ⟨g, 3, none⟩ u3).setCell ⟨g, 4, none⟩ u4).setCell ⟨g, 5, none⟩ u5).setCell ⟨g, 6, none⟩ u6).setCell ⟨g, 7, none⟩ u7)
theorem blk_set8 {w : World} {g : Nat} {t : TypeId} {v0 v1 v2 v3 v4 v5 v6 v7 : Value} (h : Blk w g t #[v0, v1, v2, v3, v4, v5, v6, v7]) (u0 u1 u2 u3 u4 u5 u6 u7 : Value) : Blk (C.set8 w g u0 u1 u2 u3 u4 u5 u6 u7) g t #[u0, u1, u2, u3, u4, u5, u6, u7] := by
  unfold Blk at h ⊢
  simp [C.set8, World.setCell, Array.getElem?_modify, h]
theorem below_set8 {B : Nat} {a w : World} (h : Below B a w) {g : Nat} (hg : B ≤ g) (u0 u1 u2 u3 u4 u5 u6 u7 : Value) : Below B a (C.set8 w g u0 u1 u2 u3 u4 u5 u6 u7) :=
  below_set (below_set (below_set (below_set (below_set (below_set (below_set (below_set h hg u0) hg u1) hg u2) hg u3) hg u4) hg u5) hg u6) hg u7
theorem Stay.set8 {C' : Nat → Prop} (w : World) {g : Nat} (hC : ∀ b, C' b → b ≠ g) (u0 u1 u2 u3 u4 u5 u6 u7 : Value) : Stay C' w (C.set8 w g u0 u1 u2 u3 u4 u5 u6 u7) := fun p hp hlt => by
  have e : ∀ (w : World) (i : Nat) (u : Value), (w.setCell ⟨g, i, none⟩ u).cell? p = w.cell? p := fun w i u => World.cell?_setCell_other w _ p u (fun e => hC _ hp (by rw [← e]))
  unfold C.set8
  rw [e _ 7 u7, e _ 6 u6, e _ 5 u5, e _ 4 u4, e _ 3 u3, e _ 2 u2, e _ 1 u1, e _ 0 u0]
theorem blk_cells8 {w : World} {g : Nat} {t : TypeId} {u0 u1 u2 u3 u4 u5 u6 u7 : Value} (h : Blk w g t #[u0, u1, u2, u3, u4, u5, u6, u7]) :
    w.cell? ⟨g, 0, none⟩ = some u0 ∧ w.cell? ⟨g, 1, none⟩ = some u1 ∧ w.cell? ⟨g, 2, none⟩ = some u2 ∧ w.cell? ⟨g, 3, none⟩ = some u3 ∧ w.cell? ⟨g, 4, none⟩ = some u4 ∧ w.cell? ⟨g, 5, none⟩ = some u5 ∧ w.cell? ⟨g, 6, none⟩ = some u6 ∧ w.cell? ⟨g, 7, none⟩ = some u7 :=
  ⟨h.cell 0, h.cell 1, h.cell 2, h.cell 3, h.cell 4, h.cell 5, h.cell 6, h.cell 7⟩

/-- What the list's cells give in every world that keeps the blocks ahead of the call. -/
theorem nd_keep {w w' : World} {B b i : Nat} {u : Value} (hk : ∀ p : Addr, p.block < B → w'.cell? p = w.cell? p) (hb : b < B) (h : w.cell? ⟨b, i, none⟩ = some u) : w'.cell? ⟨b, i, none⟩ = some u := (hk ⟨b, i, none⟩ hb).trans h

set_option maxRecDepth 100000 in
set_option maxHeartbeats 8000000 in
theorem readR_any (L : List Nd) (A : Option Addr) (c : Nat) (hN : L.length ≤ 1000000000000) (d : Nat) : ∀ (at' q : Nat) (w : World), q + d = 65 → at' ≤ L.length → LN w A L →
    Calls Tryz.prog 19 #[.slice A L.length c, .int .i64 (at' : Nat), .int .i64 (q : Nat)] w fun e w' => ReadRQ L.length (readC d (L.drop at')) w e w' := by
  induction d with
  | zero =>
    intro at' q w hq ha hA
    obtain rfl : q = 65 := hq
    have e : readC 0 (L.drop at') = none := by rw [readC]
    rw [e]
    rcases Nat.lt_or_ge at' L.length with h | h
    · exact readR_deep A _ c at' w hN h
    · exact readR_end A _ c at' 65 w hN h (by omega) (by omega)
  | succ d ih =>
    intro at' q w hq ha hA
    rcases Nat.lt_or_ge at' L.length with h | h
    · obtain ⟨n, hn⟩ : ∃ n, L[at']? = some n := ⟨_, List.getElem?_eq_getElem h⟩
      have hdr : L.drop at' = n :: L.drop (at' + 1) := by
        rw [List.drop_eq_getElem_cons h]
        congr 1
        rw [List.getElem?_eq_getElem h] at hn; exact Option.some.inj hn
      obtain ⟨R, hR⟩ : ∃ R, readC (d + 1) (L.drop at') = R := ⟨_, rfl⟩
      rw [hR]
      rw [hdr, readC_good] at hR
      obtain ⟨b, o, rfl, hb, c0, c1, c2, c3, c4, c5, c6⟩ := hA.node hn
      have hgood := fun W => goodR_any n W
      have hkids := fun W => kidsR_any n W
      have hk2 := kidsN_le n
      obtain ⟨gB, hgB⟩ : ∃ x, goodB n = x := ⟨_, rfl⟩
      rw [hgB] at hR hgood
      obtain ⟨N, hNN⟩ : ∃ N, L.length = N := ⟨_, rfl⟩
      rw [hNN] at hN ih ha h ⊢
      obtain ⟨kn, hkn⟩ : ∃ x, kidsN n = x := ⟨_, rfl⟩
      rw [hkn] at hR hkids hk2
      unfold Nd.val at hgood hkids
      have hat : decide (N ≤ at') = false := by simp; omega
      have hq64 : q ≤ 64 := by omega
      have hq65 : decide ((64 : Int) < (q : Int)) = false := by simp; omega
      have HA := Lib.hid hA
      have HR := Lib.hid hR
      have HG := Lib.hid hgB
      have HKN := Lib.hid hkn
      have HGO := Lib.hid hgood
      have HKI := Lib.hid hkids
      have HIH := Lib.hid ih
      have HQ := Lib.hid hq
      have HNN := Lib.hid hNN
      clear hA hR hgB hkn hgood hkids ih hn hdr hq hNN
      obtain ⟨op, pj, ij, hd, lb, fr, tq⟩ := n
      simp only at c0 c1 c2 c3 c4 c5 c6 HGO HKI
      go_enter Tryz.func19, Tryz.ntmps19
      go_wp2_with fail
      (refine (HGO.out _).mono ?_); rintro ev w1 ⟨rfl, hb1⟩
      have hb01 := bl (bal (b0 (a := w)) (.cells #[.int .i8 0, .int .i64 0, .bool false, .int .u8 0, .int .i64 0, .int .u8 0, .int .u8 0, .slice none 0 0] 31)) hb1
      have hz1 : Blk w1 w.heap.size 31 #[.int .i8 0, .int .i64 0, .bool false, .int .u8 0, .int .i64 0, .int .u8 0, .int .u8 0, .slice none 0 0] := (Blk.new w _ _).below hb1 (by simp only [World.size_alloc]; omega)
      have hsz1 : w.heap.size + 1 ≤ w1.heap.size := by have := hb1.size; simpa only [World.size_alloc] using this
      have HB1 := Lib.hid (And.intro hb01 hz1)
      clear hb1
      have d0 := nd_keep (fun p hp => hb01.cell hp) hb c0
      have d1 := nd_keep (fun p hp => hb01.cell hp) hb c1
      have d2 := nd_keep (fun p hp => hb01.cell hp) hb c2
      have d3 := nd_keep (fun p hp => hb01.cell hp) hb c3
      have d4 := nd_keep (fun p hp => hb01.cell hp) hb c4
      have d5 := nd_keep (fun p hp => hb01.cell hp) hb c5
      have d6 := nd_keep (fun p hp => hb01.cell hp) hb c6
      have y0 := (hz1.cell 0).trans rfl
      have y1 := (hz1.cell 1).trans rfl
      have y2 := (hz1.cell 2).trans rfl
      have y3 := (hz1.cell 3).trans rfl
      have y4 := (hz1.cell 4).trans rfl
      have y5 := (hz1.cell 5).trans rfl
      have y6 := (hz1.cell 6).trans rfl
      have y7 := (hz1.cell 7).trans rfl
      have f0 := fun i => hz1.frozen i
      clear hb01 hz1 c0 c1 c2 c3 c4 c5 c6
      cases gB
      · have hR := HR.out
        simp at hR
        subst hR
        go_wp2_with fail
        obtain ⟨Wz, hWz⟩ : ∃ Wz, set8 w1 w.heap.size (.int .i8 0) (.int .i64 0) (.bool false) (.int .u8 0) (.int .i64 0) (.int .u8 0) (.int .u8 0) (.slice none 0 0) = Wz := ⟨_, rfl⟩
        change bodyPost _ _ _ _ _ (set8 w1 w.heap.size (.int .i8 0) (.int .i64 0) (.bool false) (.int .u8 0) (.int .i64 0) (.int .u8 0) (.int .u8 0) (.slice none 0 0))
        have hbz : Blk Wz w.heap.size 31 _ := hWz ▸ blk_set8 HB1.out.2 _ _ _ _ _ _ _ _
        have hbb : Below w.heap.size w Wz := hWz ▸ below_set8 HB1.out.1 (Nat.le_refl _) _ _ _ _ _ _ _ _
        rw [hWz]
        obtain ⟨z0, z1, z2, z3, z4, z5, z6, z7⟩ := blk_cells8 hbz
        refine bodyPost_ret (v := .tuple #[(.agg #[.int .i8 0, .int .i64 0, .bool false, .int .u8 0, .int .i64 0, .int .u8 0, .int .u8 0, .slice none 0 0]), .int .i64 (-1)]) (by simp [results, Tryz.results19, go_sem, z0, z1, z2, z3, z4, z5, z6, z7]) rfl ?_
        exact ⟨hbb, rfl⟩
      · go_wp2_with fail
        obtain ⟨G, hG⟩ : ∃ G, w1.heap.size = G := ⟨_, rfl⟩
        obtain ⟨W0, hW0⟩ : ∃ W0, w1.alloc (.cells #[.int .i8 op, .int .i64 pj, .bool ij, .int .u8 hd, .int .i64 lb, .int .u8 fr, .int .u8 tq, .slice none 0 0] 31) = W0 := ⟨_, rfl⟩
        rw [hG, hW0]
        have hbG : Blk W0 G 31 #[.int .i8 op, .int .i64 pj, .bool ij, .int .u8 hd, .int .i64 lb, .int .u8 fr, .int .u8 tq, .slice none 0 0] := by rw [← hW0, ← hG]; exact Blk.new _ _ _
        have hbZ : Blk W0 w.heap.size 31 #[.int .i8 0, .int .i64 0, .bool false, .int .u8 0, .int .i64 0, .int .u8 0, .int .u8 0, .slice none 0 0] := by rw [← hW0]; exact HB1.out.2.alloc _
        have hb0 : Below w.heap.size w W0 := by rw [← hW0]; exact bal HB1.out.1 _
        have hGs : w.heap.size + 1 ≤ G ∧ G < W0.heap.size := by rw [← hW0, ← hG]; simp only [World.size_alloc]; omega
        have HW := Lib.hid (And.intro hbG (And.intro hbZ hb0))
        clear d0 d1 d2 d3 d4 d5 d6 y0 y1 y2 y3 y4 y5 y6 y7 f0 hbG hbZ hb0 hW0 hG
        have hR := HR.out
        rw [if_pos trivial] at hR
        obtain ⟨CR, hCR⟩ : ∃ CR, contR d kn [] (L.drop (at' + 1)) = CR := ⟨_, rfl⟩
        rw [hCR] at hR
        have HR2 := Lib.hid hR
        have HCR := Lib.hid hCR
        clear hR hCR HR
        obtain ⟨i0, hi0, hz0, hz1', hz2⟩ := info_three infoTr
        go_loopg [1, 9] kn (fun g u v wr => ∃ (k : Nat) (a : Nat) (ts : List Co) (V : Value), k ≤ kn ∧ g = kn - k ∧ u = .int .i64 a ∧ v = .int .i64 k ∧ ts.length = k ∧ a ≤ N ∧ contR d (kn - k) ts (L.drop a) = CR ∧
          KidsR wr (fun _ => False) G V ts ∧ Blk wr G 31 #[.int .i8 op, .int .i64 pj, .bool ij, .int .u8 hd, .int .i64 lb, .int .u8 fr, .int .u8 tq, V] ∧ W0.grownBy wr (some G) ∧ ∀ x, V.ownBlock = some x → W0.heap.size ≤ x)
        case atStart => exact ⟨0, at' + 1, [], _, by omega, rfl, by go_num, rfl, rfl, by omega, HCR.out, KidsR.nil _ _ _, HW.out.1, ⟨rfl, rfl, rfl, Nat.le_refl _, fun _ _ _ => rfl⟩, fun x hx => by cases hx⟩
        case round =>
          obtain ⟨k, a, ts, V, hk, rfl, rfl, rfl, hts, ha2, hct, hkd, hblk, hgr, hVB⟩ := hrel
          have HTS := Lib.hid hts
          have HCT := Lib.hid hct
          have HKD := Lib.hid hkd
          have HBK := Lib.hid hblk
          have HGR := Lib.hid hgr
          have HVB := Lib.hid hVB
          obtain ⟨AV, cV, rfl, hcV1, hcV2⟩ := hkd.shape
          obtain ⟨p0, p1, p2, p3, p4, p5, p6, p7⟩ := blk_cells8 hblk
          have hGw : G < wr.heap.size := hblk.lt
          clear hts hct hkd hblk hgr hVB
          go_wp2_with fail
          (refine (HKI.out _).mono ?_); rintro ev w2 ⟨rfl, hb2⟩
          have HB2 := Lib.hid hb2
          have HBK2 := Lib.hid (HBK.out.below hb2 hGw)
          clear p0 p1 p2 p3 p4 p5 p6 p7
          by_cases hlt : k < kn
          · have hb02 : W0.grownBy w2 (some G) := grown_then HGR.out (grown_below hb2 none) (fun j h => by cases h)
            have hA2 : LN w2 (some ⟨b, o, none⟩) L := by
              have h0 : Sl w w.heap.size 7 (some ⟨b, o, none⟩) L.length (nds L) := HA.out
              have h1 := h0.keep (w' := w2) (fun p hp => by
                have e1 := HW.out.2.2.cell hp
                have e2 := (Stay.grown (C := fun x => x < w.heap.size) hb02 (fun x hx e => by injection e with e; omega)) p hp (by have := HW.out.2.2.size; omega)
                exact e2.trans e1)
              exact h1.more (by have := HW.out.2.2.size; have := hb02.size; omega)
            have hih := HIH.out a (q + 1) w2 (by have := HQ.out; omega) ha2 hA2
            unfold ReadRQ at hih
            rw [show ((q + 1 : Nat) : Int) = (q : Int) + 1 by omega] at hih
            have hct := HCT.out
            obtain ⟨mm, hmm⟩ : ∃ mm, kn - k = mm + 1 := ⟨kn - k - 1, by omega⟩
            rw [hmm] at hct
            simp only [contR] at hct
            obtain ⟨RR, hRR⟩ : ∃ RR, readC d (L.drop a) = RR := ⟨_, rfl⟩
            rw [hRR] at hih hct
            have HCT2 := Lib.hid hct
            have HIHH := Lib.hid hih
            have HRR := Lib.hid hRR
            clear hb2 hb02 hA2 hih hct hRR
            go_wp2_with fail
            refine HIHH.out.mono ?_
            rintro ev w3 ⟨hb3, hq3⟩
            cases RR with
            | none =>
              simp only at hq3
              subst hq3
              have hcr := HCT2.out
              simp only at hcr
              unfold zeroTree
              have hbZ3 : Blk w3 w.heap.size 31 #[.int .i8 0, .int .i64 0, .bool false, .int .u8 0, .int .i64 0, .int .u8 0, .int .u8 0, .slice none 0 0] := (((HW.out.2.1.grown HGR.out (fun e => by injection e with e; omega)).below HB2.out (by have := HGR.out.size; have := HW.out.2.2.size; omega)).below hb3 (by have := HGR.out.size; have := HB2.out.size; have := HW.out.2.2.size; omega))
              have hb33 : Below w.heap.size w w3 := bl (bl (HW.out.2.2.grown HGR.out HW.out.2.2.size (fun x hx => by injection hx with hx; omega)) HB2.out) hb3
              have hZ4 := hbZ3.alloc (.cells #[.int .i8 0, .int .i64 0, .bool false, .int .u8 0, .int .i64 0, .int .u8 0, .int .u8 0, .slice none 0 0] 31)
              obtain ⟨y0, y1, y2, y3, y4, y5, y6, y7⟩ := blk_cells8 hZ4
              have f0 := fun i => hZ4.frozen i
              have HZ := Lib.hid (And.intro hZ4 (bal hb33 (.cells #[.int .i8 0, .int .i64 0, .bool false, .int .u8 0, .int .i64 0, .int .u8 0, .int .u8 0, .slice none 0 0] 31)))
              have HCRN := Lib.hid hcr
              clear hbZ3 hb33 hb3 hZ4 hcr
              go_wp2_with fail
              obtain ⟨Wz, hWz⟩ : ∃ Wz, set8 (w3.alloc (.cells #[.int .i8 0, .int .i64 0, .bool false, .int .u8 0, .int .i64 0, .int .u8 0, .int .u8 0, .slice none 0 0] 31)) w.heap.size (.int .i8 0) (.int .i64 0) (.bool false) (.int .u8 0) (.int .i64 0) (.int .u8 0) (.int .u8 0) (.slice none 0 0) = Wz := ⟨_, rfl⟩
              change bodyPost _ _ _ _ _ (set8 (w3.alloc (.cells #[.int .i8 0, .int .i64 0, .bool false, .int .u8 0, .int .i64 0, .int .u8 0, .int .u8 0, .slice none 0 0] 31)) w.heap.size (.int .i8 0) (.int .i64 0) (.bool false) (.int .u8 0) (.int .i64 0) (.int .u8 0) (.int .u8 0) (.slice none 0 0))
              have hbz : Blk Wz w.heap.size 31 _ := hWz ▸ blk_set8 (HZ.out.1) _ _ _ _ _ _ _ _
              have hbb : Below w.heap.size w Wz := hWz ▸ below_set8 (HZ.out.2) (Nat.le_refl _) _ _ _ _ _ _ _ _
              rw [hWz]
              obtain ⟨z0, z1, z2, z3, z4, z5, z6, z7⟩ := blk_cells8 hbz
              refine bodyPost_ret (v := .tuple #[(.agg #[.int .i8 0, .int .i64 0, .bool false, .int .u8 0, .int .i64 0, .int .u8 0, .int .u8 0, .slice none 0 0]), .int .i64 (-1)]) (by simp [results, Tryz.results19, go_sem, z0, z1, z2, z3, z4, z5, z6, z7]) rfl ?_
              have hr := HR2.out
              rw [← HCRN.out] at hr
              simp only at hr
              subst hr
              exact ⟨hbb, rfl⟩
            | some tr =>
              obtain ⟨t, r⟩ := tr
              simp only at hq3
              obtain ⟨s, rfl, hs⟩ := hq3
              obtain ⟨As, cs, rfl, hs1, hs2⟩ := hs.slice
              obtain ⟨sn, hsn⟩ : ∃ x, t.nk = x := ⟨_, rfl⟩
              rw [hsn] at hs hs1 ⊢
              have hcr := HCT2.out
              simp only at hcr
              have hsuf : L.drop (N - r.length) = r := by
                have h1 := (readC_some d _ _ _ HRR.out).1
                rw [← HNN.out]
                exact drop_suffix h1
              have hrl : r.length ≤ N := by
                have h1 := (readC_some d _ _ _ HRR.out).1
                have h2 := congrArg List.length h1
                rw [List.length_drop, List.length_append, HNN.out] at h2
                omega
              have hNZ : (0 : Int) ≤ ((N - r.length : Nat) : Int) := by omega
              obtain ⟨a2, hA2⟩ : ∃ x, N - r.length = x := ⟨_, rfl⟩
              have ha3 : a2 ≤ N := by omega
              have htrc : trc t (.slice As sn cs) = [.int .i8 t.nd.op, .int .i64 t.nd.pj, .bool t.nd.ij, .int .u8 t.nd.hd, .int .i64 t.nd.lb, .int .u8 t.nd.fr, .int .u8 t.nd.to, .slice As sn cs] := rfl
              rw [hA2] at hsuf hNZ ⊢
              unfold TV
              obtain ⟨to_, ht0⟩ : ∃ x, t.nd.op = x := ⟨_, rfl⟩
              obtain ⟨tp, ht1⟩ : ∃ x, t.nd.pj = x := ⟨_, rfl⟩
              obtain ⟨ti, ht2⟩ : ∃ x, t.nd.ij = x := ⟨_, rfl⟩
              obtain ⟨th, ht3⟩ : ∃ x, t.nd.hd = x := ⟨_, rfl⟩
              obtain ⟨tl, ht4⟩ : ∃ x, t.nd.lb = x := ⟨_, rfl⟩
              obtain ⟨tf, ht5⟩ : ∃ x, t.nd.fr = x := ⟨_, rfl⟩
              obtain ⟨tt, ht6⟩ : ∃ x, t.nd.to = x := ⟨_, rfl⟩
              rw [ht0, ht1, ht2, ht3, ht4, ht5, ht6] at htrc ⊢
              have hbk3 := HBK2.out.below hb3 (by have := HB2.out.size; omega)
              have hbk4 := hbk3.alloc (.cells #[.int .i8 to_, .int .i64 tp, .bool ti, .int .u8 th, .int .i64 tl, .int .u8 tf, .int .u8 tt, .slice As sn cs] 31)
              obtain ⟨p0, p1, p2, p3, p4, p5, p6, p7⟩ := blk_cells8 hbk4
              obtain ⟨ss, Ck, hss, hown, hCk, hvs⟩ := HKD.out
              have hlst : ∀ x, (Value.slice AV ts.length cV).ownBlock = some x → G + 1 ≤ x ∧ x < wr.heap.size := fun x hx => hown.lt x hx
              have hbw3 : Below wr.heap.size wr w3 := bl HB2.out hb3
              have hbw5 : Below wr.heap.size wr ((w3.alloc (.cells #[.int .i8 to_, .int .i64 tp, .bool ti, .int .u8 th, .int .i64 tl, .int .u8 tf, .int .u8 tt, .slice As sn cs] 31)).alloc (.cells #[.int .i8 to_, .int .i64 tp, .bool ti, .int .u8 th, .int .i64 tl, .int .u8 tf, .int .u8 tt, .slice As sn cs] 31)) := bal (bal hbw3 _) _
              have hown5 := own_below hown hbw5
              have hsl5 : Sl ((w3.alloc (.cells #[.int .i8 to_, .int .i64 tp, .bool ti, .int .u8 th, .int .i64 tl, .int .u8 tf, .int .u8 tt, .slice As sn cs] 31)).alloc (.cells #[.int .i8 to_, .int .i64 tp, .bool ti, .int .u8 th, .int .i64 tl, .int .u8 tf, .int .u8 tt, .slice As sn cs] 31)) (w3.heap.size + 1 + 1) 8 (some ⟨w3.heap.size + 1, 0, none⟩) 1 [.int .i8 to_, .int .i64 tp, .bool ti, .int .u8 th, .int .i64 tl, .int .u8 tf, .int .u8 tt, .slice As sn cs] := by
                have := Sl.eight (w3.alloc (.cells #[.int .i8 to_, .int .i64 tp, .bool ti, .int .u8 th, .int .i64 tl, .int .u8 tf, .int .u8 tt, .slice As sn cs] 31)) (.int .i8 to_) (.int .i64 tp) (.bool ti) (.int .u8 th) (.int .i64 tl) (.int .u8 tf) (.int .u8 tt) (.slice As sn cs) 31
                rwa [World.size_alloc] at this
              have hone : ∀ u ∈ ([.int .i8 to_, .int .i64 tp, .bool ti, .int .u8 th, .int .i64 tl, .int .u8 tf, .int .u8 tt, .slice As sn cs] : List Value), u.oneCell' = true := by
                intro u hu
                simp only [List.mem_cons, List.not_mem_nil, or_false] at hu
                rcases hu with rfl | rfl | rfl | rfl | rfl | rfl | rfl | rfl <;> rfl
              have hG6 : G + 1 ≤ ((w3.alloc (.cells #[.int .i8 to_, .int .i64 tp, .bool ti, .int .u8 th, .int .i64 tl, .int .u8 tf, .int .u8 tt, .slice As sn cs] 31)).alloc (.cells #[.int .i8 to_, .int .i64 tp, .bool ti, .int .u8 th, .int .i64 tl, .int .u8 tf, .int .u8 tt, .slice As sn cs] 31)).heap.size := by have := hbw3.size; simp only [World.size_alloc]; omega
              have hts := HTS.out
              rw [hts] at hown5 hlst
              have hpre : ∀ w6, ((w3.alloc (.cells #[.int .i8 to_, .int .i64 tp, .bool ti, .int .u8 th, .int .i64 tl, .int .u8 tf, .int .u8 tt, .slice As sn cs] 31)).alloc (.cells #[.int .i8 to_, .int .i64 tp, .bool ti, .int .u8 th, .int .i64 tl, .int .u8 tf, .int .u8 tt, .slice As sn cs] 31)).grownBy w6 (Value.slice AV k cV).ownBlock → Blk w6 G 31 #[.int .i8 op, .int .i64 pj, .bool ij, .int .u8 hd, .int .i64 lb, .int .u8 fr, .int .u8 tq, .slice AV k cV] := fun w6 hg6 => by
                have := (hbk4.alloc (.cells #[.int .i8 to_, .int .i64 tp, .bool ti, .int .u8 th, .int .i64 tl, .int .u8 tf, .int .u8 tt, .slice As sn cs] 31)).grown hg6 (fun e => by have := hlst G e.symm; omega)
                rwa [hts] at this
              have HPRE := Lib.hid hpre
              have HO5 := Lib.hid hown5
              have HMISC := Lib.hid (And.intro hss (And.intro hown (And.intro hCk (And.intro hvs (And.intro hlst (And.intro hbw3 (And.intro hs (And.intro hcr (And.intro hsuf (And.intro htrc hsn))))))))))
              have hk2' : k + 1 ≤ 2 := by omega
              rw [hts] at p7
              clear hs hcr hsuf hbk3 hbk4 hss hown hCk hvs hlst hbw3 hbw5 hown5 hpre htrc ht0 ht1 ht2 ht3 ht4 ht5 ht6 hsn hts hb3 hA2
              go_wp2_with (at_builtin; refine wpList_append_sl _ rfl (.tmp 55) (.tmp 57) _ rfl (G + 1) 31 i0 _ 8 64 Tryz.underlying29 hi0 hz0 hz1' hz2 rfl (by omega) (.slice AV k cV) k (trf ts ss) rfl HO5.out (w3.heap.size + 1 + 1) (some ⟨w3.heap.size + 1, 0, none⟩) 1 1 [.int .i8 to_, .int .i64 tp, .bool ti, .int .u8 th, .int .i64 tl, .int .u8 tf, .int .u8 tt, .slice As sn cs] rfl hsl5 hone (by simp only [maxLen]; omega) (by omega) hG6 ?_; intro V' w6 hown6 hg6 hV6; obtain ⟨A6, c6, rfl, hs61, hs62⟩ := own_shape hown6; have HG6 := Lib.hid (And.intro hown6 (And.intro hg6 hV6)); have hq0 := (HPRE.out w6 hg6).cell 7; have hq1 := (HPRE.out w6 hg6).frozen 7; simp only [List.getElem?_toArray, List.getElem?_cons_zero, List.getElem?_cons_succ] at hq0; clear hown6 hg6 hV6)
              obtain ⟨hss, hown, hCk, hvs, hlst, hbw3, hs, hcr, hsuf, htrc, hsn⟩ := HMISC.out
              obtain ⟨hown6, hg6, hV6⟩ := HG6.out
              go_roundg (kn - (k + 1))
              case measure => omega
              case rel =>
                have hts := HTS.out
                have hgr6 : W0.grownBy w6 (some G) := grown_then (grown_then HGR.out (grown_below (bal (bal hbw3 _) _) none) (fun j h => by cases h)) hg6 (fun j hj => .inl (HVB.out j (by rw [hts]; exact hj)))
                have hkn := (KidsR.push (D := fun _ => False) hss hown hCk hvs hbw3 hs (fun x hx => by
                  have : w2.heap.size ≤ x := hx
                  have h2 := HB2.out.size
                  exact ⟨.inr (by omega), by omega, fun e => by rw [hts] at e; have := hlst x e; omega⟩) (bal (bal b0 _) _) (by rw [htrc, hts]; exact hown6) (by rw [hts]; exact hg6) (by rw [hts]; exact hV6)).set_ 7 (.slice A6 (k + 1) c6)
                refine ⟨k + 1, a2, ts ++ [t], _, by omega, rfl, rfl, by go_num, by simp [hts], ha3, ?_, hkn, (HPRE.out w6 hg6).set_ 7 _, grown_set hgr6 7 _, fun x hx => ?_⟩
                · rw [show kn - (k + 1) = mm by omega, hsuf]; exact hcr
                · rcases hV6 with h6 | h6
                  · rw [h6] at hx; exact HVB.out x (by rw [hts]; exact hx)
                  · rw [h6] at hx
                    injection hx with hx
                    have h1 := HGR.out.size
                    have h2 := hbw3.size
                    rw [← hx]; simp only [World.size_alloc]; omega
          · obtain rfl : k = kn := by omega
            have hct := HCT.out
            rw [Nat.sub_self] at hct
            simp only [contR] at hct
            have hr := HR2.out
            rw [← hct] at hr
            simp only at hr
            have hts := HTS.out
            obtain ⟨gr, hgr⟩ : ∃ x, grL pj ij hd k ts = x := ⟨_, rfl⟩
            rw [hgr] at hr
            have hmn := mkT_nd (ts := ts) HG.out
            have htree : TrS w2 (fun x => G < x) (mkT ⟨op, pj, ij, hd, lb, fr, tq⟩ ts) (.slice AV ts.length cV) := (HKD.out.tree HG.out (hts.trans HKN.out.symm) (fun x hx => hx.resolve_left id)).below HB2.out
            rw [hts] at htree
            have hgc := fun W (hb : Below w2.heap.size w2 W) => groundsR_any (mkT ⟨op, pj, ij, hd, lb, fr, tq⟩ ts) AV k cV _ W gr (htree.below hb) (hmn.2.trans HKN.out) (by
              rw [← hgr, grL_iff]
              constructor
              · intro hx m hm; rw [grK_mkT HG.out (by rw [HKN.out]; exact hm)]; exact hx m hm
              · intro hx m hm; have := hx m hm; rwa [grK_mkT HG.out (by rw [HKN.out]; exact hm)] at this) (fun h0 => by
              rw [hmn.1]
              have h1 : op ≠ 1 := fun e => h0 (by rw [← HKN.out]; unfold kidsN; rw [if_pos (.inl e)])
              have h7 : op ≠ 7 := fun e => h0 (by rw [← HKN.out]; unfold kidsN; rw [if_pos (.inr e)])
              exact (goodB_kids HG.out h1 h7).2)
            have htv : TV (mkT ⟨op, pj, ij, hd, lb, fr, tq⟩ ts) (.slice AV k cV) = .agg #[.int .i8 op, .int .i64 pj, .bool ij, .int .u8 hd, .int .i64 lb, .int .u8 fr, .int .u8 tq, .slice AV k cV] := by unfold TV; rw [hmn.1]
            rw [htv] at hgc
            have hdl : N - (L.drop a).length = a := by rw [List.length_drop, HNN.out]; omega
            have hbk2 := HBK2.out
            rw [hts] at hbk2
            have hZ2 : Blk w2 w.heap.size 31 #[.int .i8 0, .int .i64 0, .bool false, .int .u8 0, .int .i64 0, .int .u8 0, .int .u8 0, .slice none 0 0] := (HW.out.2.1.grown HGR.out (fun e => by injection e with e; omega)).below HB2.out (by have := HGR.out.size; have := HW.out.2.2.size; omega)
            have hb02 : Below w.heap.size w w2 := bl (HW.out.2.2.grown HGR.out HW.out.2.2.size (fun x hx => by injection hx with hx; omega)) HB2.out
            have HGC := Lib.hid hgc
            have HRR := Lib.hid hr
            have HMI := Lib.hid (And.intro htree (And.intro htv (And.intro hdl (And.intro hbk2 (And.intro hZ2 hb02)))))
            obtain ⟨p0, p1, p2, p3, p4, p5, p6, p7⟩ := blk_cells8 hbk2
            have hGw2 : G < w2.heap.size := hbk2.lt
            have hZw2 : w.heap.size < w2.heap.size := hZ2.lt
            clear hgc hr htree htv hdl hbk2 hZ2 hb02 hts hct hgr hmn hb2
            go_wp2_with fail
            refine (HGC.out _ b0).mono ?_
            rintro ev w3 ⟨rfl, hb3⟩
            obtain ⟨htree, htv, hdl, hbk2, hZ2, hb02⟩ := HMI.out
            have hbk3 := hbk2.below hb3 hGw2
            have hZ3 := hZ2.below hb3 hZw2
            have hb03 := bl hb02 hb3
            have htree3 := htree.below hb3
            have HM3 := Lib.hid (And.intro htree3 (And.intro htv (And.intro hdl (And.intro hZ3 hb03))))
            obtain ⟨p0, p1, p2, p3, p4, p5, p6, p7⟩ := blk_cells8 hbk3
            obtain ⟨y0, y1, y2, y3, y4, y5, y6, y7⟩ := blk_cells8 hZ3
            have f0 := fun i => hZ3.frozen i
            clear htree htv hdl hbk2 hZ2 hb02 hbk3 hZ3 hb03 htree3 hb3
            cases gr
            · go_wp2_with fail
              obtain ⟨htree3, htv, hdl, hZ3, hb03⟩ := HM3.out
              obtain ⟨Wz, hWz⟩ : ∃ Wz, set8 w3 w.heap.size (.int .i8 0) (.int .i64 0) (.bool false) (.int .u8 0) (.int .i64 0) (.int .u8 0) (.int .u8 0) (.slice none 0 0) = Wz := ⟨_, rfl⟩
              change bodyPost _ _ _ _ _ (set8 w3 w.heap.size (.int .i8 0) (.int .i64 0) (.bool false) (.int .u8 0) (.int .i64 0) (.int .u8 0) (.int .u8 0) (.slice none 0 0))
              have hbz : Blk Wz w.heap.size 31 _ := hWz ▸ blk_set8 hZ3 _ _ _ _ _ _ _ _
              have hbb : Below w.heap.size w Wz := hWz ▸ below_set8 hb03 (Nat.le_refl _) _ _ _ _ _ _ _ _
              rw [hWz]
              obtain ⟨z0, z1, z2, z3, z4, z5, z6, z7⟩ := blk_cells8 hbz
              refine bodyPost_ret (v := .tuple #[(.agg #[.int .i8 0, .int .i64 0, .bool false, .int .u8 0, .int .i64 0, .int .u8 0, .int .u8 0, .slice none 0 0]), .int .i64 (-1)]) (by simp [results, Tryz.results19, go_sem, z0, z1, z2, z3, z4, z5, z6, z7]) rfl ?_
              have hr := HRR.out
              simp at hr
              subst hr
              exact ⟨hbb, rfl⟩
            · go_wp2_with fail
              obtain ⟨htree3, htv, hdl, hZ3, hb03⟩ := HM3.out
              obtain ⟨Wz, hWz⟩ : ∃ Wz, set8 w3 w.heap.size (.int .i8 op) (.int .i64 pj) (.bool ij) (.int .u8 hd) (.int .i64 lb) (.int .u8 fr) (.int .u8 tq) (.slice AV k cV) = Wz := ⟨_, rfl⟩
              change bodyPost _ _ _ _ _ (set8 w3 w.heap.size (.int .i8 op) (.int .i64 pj) (.bool ij) (.int .u8 hd) (.int .i64 lb) (.int .u8 fr) (.int .u8 tq) (.slice AV k cV))
              have hbz : Blk Wz w.heap.size 31 _ := hWz ▸ blk_set8 hZ3 _ _ _ _ _ _ _ _
              have hbb : Below w.heap.size w Wz := hWz ▸ below_set8 hb03 (Nat.le_refl _) _ _ _ _ _ _ _ _
              have htz : TrS Wz (w.heap.size ≤ ·) (mkT ⟨op, pj, ij, hd, lb, fr, tq⟩ ts) (.slice AV k cV) := hWz ▸ htree3.stay (Stay.set8 w3 (fun x hx => by have : G < x := hx; omega) _ _ _ _ _ _ _ _) (fun x hx => by have : G < x := hx; show w.heap.size ≤ x; omega)
              rw [hWz]
              obtain ⟨z0, z1, z2, z3, z4, z5, z6, z7⟩ := blk_cells8 hbz
              refine bodyPost_ret (v := .tuple #[(.agg #[.int .i8 op, .int .i64 pj, .bool ij, .int .u8 hd, .int .i64 lb, .int .u8 fr, .int .u8 tq, .slice AV k cV]), .int .i64 a]) (by simp [results, Tryz.results19, go_sem, z0, z1, z2, z3, z4, z5, z6, z7]) rfl ?_
              have hr := HRR.out
              simp at hr
              subst hr
              exact ⟨hbb, _, by rw [htv, hdl], htz⟩
    · have e : L.drop at' = [] := List.drop_eq_nil_of_le h
      rw [e, readC]
      exact readR_end A _ c at' q w hN h (by omega) (by omega)

/-- Some tree's value. -/
def NV (n : Nd) (A : Option Addr) (k c : Nat) : Value := .agg #[.int .i8 n.op, .int .i64 n.pj, .bool n.ij, .int .u8 n.hd, .int .i64 n.lb, .int .u8 n.fr, .int .u8 n.to, .slice A k c]
def ReadTQ (R : Option Co) (w : World) (e : Ending) (w' : World) : Prop := Below w.heap.size w w' ∧ match R with
  | none => ∃ n A k c, e = .returned (.tuple #[NV n A k c, .bool false])
  | some t => ∃ A c, e = .returned (.tuple #[NV t.nd A t.nk c, .bool true]) ∧ TrS w' (w.heap.size ≤ ·) t (.slice A t.nk c)

set_option maxRecDepth 100000 in
set_option maxHeartbeats 2000000 in
/-- Read, where its inner call has answered: the world behind, what it stores. -/
theorem ReadR_tail (A0 : Option Addr) (N c : Nat) (w : World) (n : Nd) (k : Nat) (pos : Int) (P : Option Addr → Nat → World → Prop)
    (h : ∀ W, W.heap.size = w.heap.size + 1 → Below w.heap.size w W → Calls Tryz.prog 19 #[.slice A0 N c, .int .i64 0, .int .i64 1] W fun e w' => Below W.heap.size W w' ∧ ∃ A ck, e = .returned (.tuple #[NV n A k ck, .int .i64 pos]) ∧ P A ck w')
    (hP : ∀ A ck w1 w2, P A ck w1 → Stay (fun b => w.heap.size < b) w1 w2 → P A ck w2) (r : Bool) (hr : r = (decide (pos = (N : Int)) && decide (0 < (N : Int)))) :
    Calls Tryz.prog 7 #[.slice A0 N c] w fun e w' => Below w.heap.size w w' ∧ ∃ A ck, e = .returned (.tuple #[NV n A k ck, .bool r]) ∧ P A ck w' := by
  obtain ⟨op, pj, ij, hd, lb, fr, tq⟩ := n
  unfold NV at *
  simp only at *
  have hn := h (w.alloc (.cells #[.int .i8 0, .int .i64 0, .bool false, .int .u8 0, .int .i64 0, .int .u8 0, .int .u8 0, .slice none 0 0] 31)) (by simp only [World.size_alloc]) (bal b0 _)
  have HN := Lib.hid hn
  have HP := Lib.hid hP
  have hr1 : r = ((pos == (N : Int)) && decide (0 < N)) := by rw [hr, Bool.eq_iff_iff]; simp
  have HRR := Lib.hid hr1
  clear hn hP h hr hr1
  go_enter Tryz.func7, Tryz.ntmps7
  go_wp2_with fail
  (refine HN.out.mono ?_); rintro ev w1 ⟨hb1, A, ck, rfl, hp1⟩
  have hz1 : Blk w1 w.heap.size 31 #[.int .i8 0, .int .i64 0, .bool false, .int .u8 0, .int .i64 0, .int .u8 0, .int .u8 0, .slice none 0 0] := (Blk.new w _ _).below hb1 (by simp only [World.size_alloc]; omega)
  have hb01 : Below w.heap.size w w1 := bl (bal b0 _) hb1
  have hsz := hb1.size
  simp only [World.size_alloc] at hsz
  have hz2 := hz1.alloc (.cells #[.int .i8 op, .int .i64 pj, .bool ij, .int .u8 hd, .int .i64 lb, .int .u8 fr, .int .u8 tq, .slice A k ck] 31)
  have HM := Lib.hid (And.intro hz2 (And.intro hb01 hp1))
  obtain ⟨y0, y1, y2, y3, y4, y5, y6, y7⟩ := blk_cells8 hz2
  have f0 := fun i => hz2.frozen i
  clear hz1 hz2 hb01 hb1 hp1
  have hr := HRR.out
  clear HRR
  by_cases hpN : pos = (N : Int)
  · subst hpN
    rcases Nat.eq_zero_or_pos N with hN0 | hN0
    · have : r = false := by rw [hr, hN0]; rfl
      subst this
      subst hN0
      clear hr
      go_wp2_with fail
      obtain ⟨hz2, hb01, hp1⟩ := HM.out
      obtain ⟨Wz, hWz⟩ : ∃ Wz, set8 (w1.alloc (.cells #[.int .i8 op, .int .i64 pj, .bool ij, .int .u8 hd, .int .i64 lb, .int .u8 fr, .int .u8 tq, .slice A k ck] 31)) w.heap.size (.int .i8 op) (.int .i64 pj) (.bool ij) (.int .u8 hd) (.int .i64 lb) (.int .u8 fr) (.int .u8 tq) (.slice A k ck) = Wz := ⟨_, rfl⟩
      change bodyPost _ _ _ _ _ (set8 (w1.alloc (.cells #[.int .i8 op, .int .i64 pj, .bool ij, .int .u8 hd, .int .i64 lb, .int .u8 fr, .int .u8 tq, .slice A k ck] 31)) w.heap.size (.int .i8 op) (.int .i64 pj) (.bool ij) (.int .u8 hd) (.int .i64 lb) (.int .u8 fr) (.int .u8 tq) (.slice A k ck))
      have hbz : Blk Wz w.heap.size 31 _ := hWz ▸ blk_set8 hz2 _ _ _ _ _ _ _ _
      have hbb : Below w.heap.size w Wz := hWz ▸ below_set8 (bal hb01 _) (Nat.le_refl _) _ _ _ _ _ _ _ _
      have hpz : P A ck Wz := HP.out A ck w1 Wz hp1 (hWz ▸ ((Stay.below (bal b0 _)).trans (Stay.set8 _ (fun x hx => by have : w.heap.size < x := hx; omega) _ _ _ _ _ _ _ _) (by simp only [World.size_alloc]; omega)))
      rw [hWz]
      obtain ⟨z0, z1, z2, z3, z4, z5, z6, z7⟩ := blk_cells8 hbz
      refine bodyPost_ret (v := .tuple #[.agg #[.int .i8 op, .int .i64 pj, .bool ij, .int .u8 hd, .int .i64 lb, .int .u8 fr, .int .u8 tq, .slice A k ck], .bool false]) (by simp [results, Tryz.results7, go_sem, z0, z1, z2, z3, z4, z5, z6, z7]) rfl ?_
      exact ⟨hbb, A, ck, rfl, hpz⟩
    · have : r = true := by rw [hr]; simp; exact hN0
      subst this
      have h0 : 0 < N := hN0
      clear hr hN0
      go_wp2_with fail
      obtain ⟨hz2, hb01, hp1⟩ := HM.out
      obtain ⟨Wz, hWz⟩ : ∃ Wz, set8 (w1.alloc (.cells #[.int .i8 op, .int .i64 pj, .bool ij, .int .u8 hd, .int .i64 lb, .int .u8 fr, .int .u8 tq, .slice A k ck] 31)) w.heap.size (.int .i8 op) (.int .i64 pj) (.bool ij) (.int .u8 hd) (.int .i64 lb) (.int .u8 fr) (.int .u8 tq) (.slice A k ck) = Wz := ⟨_, rfl⟩
      change bodyPost _ _ _ _ _ (set8 (w1.alloc (.cells #[.int .i8 op, .int .i64 pj, .bool ij, .int .u8 hd, .int .i64 lb, .int .u8 fr, .int .u8 tq, .slice A k ck] 31)) w.heap.size (.int .i8 op) (.int .i64 pj) (.bool ij) (.int .u8 hd) (.int .i64 lb) (.int .u8 fr) (.int .u8 tq) (.slice A k ck))
      have hbz : Blk Wz w.heap.size 31 _ := hWz ▸ blk_set8 hz2 _ _ _ _ _ _ _ _
      have hbb : Below w.heap.size w Wz := hWz ▸ below_set8 (bal hb01 _) (Nat.le_refl _) _ _ _ _ _ _ _ _
      have hpz : P A ck Wz := HP.out A ck w1 Wz hp1 (hWz ▸ ((Stay.below (bal b0 _)).trans (Stay.set8 _ (fun x hx => by have : w.heap.size < x := hx; omega) _ _ _ _ _ _ _ _) (by simp only [World.size_alloc]; omega)))
      rw [hWz]
      obtain ⟨z0, z1, z2, z3, z4, z5, z6, z7⟩ := blk_cells8 hbz
      refine bodyPost_ret (v := .tuple #[.agg #[.int .i8 op, .int .i64 pj, .bool ij, .int .u8 hd, .int .i64 lb, .int .u8 fr, .int .u8 tq, .slice A k ck], .bool true]) (by simp [results, Tryz.results7, go_sem, z0, z1, z2, z3, z4, z5, z6, z7]) rfl ?_
      exact ⟨hbb, A, ck, rfl, hpz⟩
  · have e1 : (pos == (N : Int)) = false := by simpa using hpN
    have : r = false := by rw [hr, e1]; rfl
    subst this
    clear hr hpN
    go_wp2_with fail
    obtain ⟨hz2, hb01, hp1⟩ := HM.out
    obtain ⟨Wz, hWz⟩ : ∃ Wz, set8 (w1.alloc (.cells #[.int .i8 op, .int .i64 pj, .bool ij, .int .u8 hd, .int .i64 lb, .int .u8 fr, .int .u8 tq, .slice A k ck] 31)) w.heap.size (.int .i8 op) (.int .i64 pj) (.bool ij) (.int .u8 hd) (.int .i64 lb) (.int .u8 fr) (.int .u8 tq) (.slice A k ck) = Wz := ⟨_, rfl⟩
    change bodyPost _ _ _ _ _ (set8 (w1.alloc (.cells #[.int .i8 op, .int .i64 pj, .bool ij, .int .u8 hd, .int .i64 lb, .int .u8 fr, .int .u8 tq, .slice A k ck] 31)) w.heap.size (.int .i8 op) (.int .i64 pj) (.bool ij) (.int .u8 hd) (.int .i64 lb) (.int .u8 fr) (.int .u8 tq) (.slice A k ck))
    have hbz : Blk Wz w.heap.size 31 _ := hWz ▸ blk_set8 hz2 _ _ _ _ _ _ _ _
    have hbb : Below w.heap.size w Wz := hWz ▸ below_set8 (bal hb01 _) (Nat.le_refl _) _ _ _ _ _ _ _ _
    have hpz : P A ck Wz := HP.out A ck w1 Wz hp1 (hWz ▸ ((Stay.below (bal b0 _)).trans (Stay.set8 _ (fun x hx => by have : w.heap.size < x := hx; omega) _ _ _ _ _ _ _ _) (by simp only [World.size_alloc]; omega)))
    rw [hWz]
    obtain ⟨z0, z1, z2, z3, z4, z5, z6, z7⟩ := blk_cells8 hbz
    refine bodyPost_ret (v := .tuple #[.agg #[.int .i8 op, .int .i64 pj, .bool ij, .int .u8 hd, .int .i64 lb, .int .u8 fr, .int .u8 tq, .slice A k ck], .bool false]) (by simp [results, Tryz.results7, go_sem, z0, z1, z2, z3, z4, z5, z6, z7]) rfl ?_
    exact ⟨hbb, A, ck, rfl, hpz⟩

theorem TrS.keepAll {w w' : World} {C : Nat → Prop} {t : Co} {s : Value} (h : TrS w C t s) (hs : Stay C w w') : TrS w' C t s := h.stay hs fun _ h => h

theorem ReadR_top (l : List Nd) (A : Option Addr) (c : Nat) (w : World) (hl : l.length ≤ 1000000000000) (hA : LN w A l) :
    Calls Tryz.prog 7 #[.slice A l.length c] w fun e w' => ReadTQ (treeC l) w e w' := by
  have h := readR_any l A c hl 64 0 1
  rw [List.drop_zero] at h
  rw [treeC_whole]
  rcases hR : readC 64 l with _ | ⟨t, r⟩
  · refine (ReadR_tail A l.length c w ⟨0, 0, false, 0, 0, 0, 0⟩ 0 (-1) (fun _ _ _ => True) (fun W hW hb => ?_) (fun _ _ _ _ _ _ => trivial) false (by simp)).mono fun e w' ⟨h1, A, ck, h2, _⟩ => ⟨h1, _, A, 0, ck, h2⟩
    refine (h W (by omega) (by omega) (hA.below hb)).mono fun e w' hq => ?_
    unfold ReadRQ at hq
    rw [hR] at hq
    exact ⟨hq.1, none, 0, hq.2, trivial⟩
  · have hlen : r.length ≤ l.length := by
      have := congrArg List.length (readC_some 64 _ _ _ hR).1
      simp at this; omega
    have hpos : 0 < l.length := by
      have := congrArg List.length (readC_some 64 _ _ _ hR).1
      have h2 := Co.list_pos t
      simp at this; omega
    have hin : ∀ W, W.heap.size = w.heap.size + 1 → Below w.heap.size w W → Calls Tryz.prog 19 #[.slice A l.length c, .int .i64 0, .int .i64 1] W fun e w' => Below W.heap.size W w' ∧ ∃ A ck, e = .returned (.tuple #[NV t.nd A t.nk ck, .int .i64 ((l.length - r.length : Nat) : Int)]) ∧ TrS w' (w.heap.size < ·) t (.slice A t.nk ck) := fun W hW hb =>
      (h W (by omega) (by omega) (hA.below hb)).mono fun e w' hq => by
        unfold ReadRQ at hq
        rw [hR] at hq
        obtain ⟨h1, s, h2, h3⟩ := hq
        obtain ⟨A', c', rfl, _, _⟩ := h3.slice
        exact ⟨h1, A', c', h2, h3.mono fun b hb => by have : W.heap.size ≤ b := hb; show w.heap.size < b; omega⟩
    have key := fun r' hr' => ReadR_tail A l.length c w t.nd t.nk ((l.length - r.length : Nat) : Int) (fun A ck w' => TrS w' (w.heap.size < ·) t (.slice A t.nk ck)) hin (fun A ck w1 w2 h1 h2 => h1.keepAll h2) r' hr'
    cases r with
    | nil =>
      refine (key true (by simp; exact hpos)).mono fun e w' ⟨h1, A, ck, h2, h3⟩ => ⟨h1, A, ck, h2, h3.mono fun b hb => by have : w.heap.size < b := hb; show w.heap.size ≤ b; omega⟩
    | cons x r =>
      refine (key false ?_).mono fun e w' ⟨h1, A, ck, h2, h3⟩ => ⟨h1, _, A, _, ck, h2⟩
      have : ¬ (((l.length - (x :: r).length : Nat) : Int) = (l.length : Int)) := by simp only [List.length_cons] at hlen ⊢; omega
      simp only [this, decide_false, Bool.false_and]
end Go.Proofs.YtjklecncdinabaaGreatDoor.C
