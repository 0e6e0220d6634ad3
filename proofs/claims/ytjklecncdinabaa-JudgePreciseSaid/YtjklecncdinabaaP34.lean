/- Parts of this claim: JuK. -/
import Derived.Test.YtjklecncdinabaaP33
import Derived.Test.YtjklecncdinabaaP04
set_option linter.unusedVariables false
set_option linter.unusedSimpArgs false
/- JuK -/
namespace Go.Proofs.Ytjklecncdinabaa.J
open Go.RowKit Go.Proofs.Ytjklecncdinabaa.B Go.Proofs.Ytjklecncdinabaa.T Go.Proofs.Ytjklecncdinabaa.K Go.Proofs.Ytjklecncdinabaa.La
set_option linter.unusedVariables false
set_option linter.unusedSimpArgs false

noncomputable def pI (c : Tn) : Bool := !allT askP (ty c.t) (ty c.u)
noncomputable def pC (c : Tn) : Bool := !allT askP (ty c.u) (ty c.t)
def insL (p : Tn → Bool) (cs : List Tn) (N : Nat) : List Bool := (List.range N).map fun (i : Nat) => cs.any fun c => decide (c.n = (i : Int) + 1) && p c
theorem lt_sln {w : World} {A : Option Addr} {L : List Tn} {n : Nat} (hn : L.length = n) (h : Sl w w.heap.size 8 A n (tns L)) : LT w w.heap.size A L := by subst hn; exact lt_sl h
theorem insL_len (p : Tn → Bool) (cs : List Tn) (N : Nat) : (insL p cs N).length = N := by simp [insL]
theorem insL_nil (p : Tn → Bool) (N : Nat) : insL p [] N = List.replicate N false := by
  apply List.ext_getElem
  · simp [insL]
  · intro i h1 h2; simp [insL]
theorem insL_at (p : Tn → Bool) (cs : List Tn) {N i : Nat} (hi : i < N) : (insL p cs N)[i]? = some (cs.any fun c => decide (c.n = (i : Int) + 1) && p c) := by
  unfold insL; rw [List.getElem?_map, List.getElem?_range hi]; rfl
theorem insL_step (p : Tn → Bool) (cs : List Tn) (c : Tn) {N q : Nat} (hq : q < N) (hc : c.n = (q : Int) + 1) {b : Bool} (hb : (insL p cs N)[q]? = some b) : insL p (cs ++ [c]) N = (insL p cs N).set q (b || p c) := by
  apply List.ext_getElem?
  intro i
  by_cases hi : i < N
  · rw [insL_at p _ hi]
    by_cases hiq : i = q
    · subst hiq
      rw [List.getElem?_set_self (by rw [insL_len]; exact hi)]
      rw [insL_at p _ hi] at hb
      cases hb
      rw [List.any_append]
      simp [hc]
    · rw [List.getElem?_set_ne (fun e => hiq e.symm), insL_at p _ hi, List.any_append]
      have : ¬ c.n = (i : Int) + 1 := by omega
      simp [this]
  · rw [List.getElem?_eq_none (by rw [insL_len]; omega), List.getElem?_eq_none (by rw [List.length_set, insL_len]; omega)]
def bsV (l : List Bool) : Array Value := (l.map Value.bool).toArray
theorem bsV_set (l : List Bool) (q : Nat) (b : Bool) : (bsV l).setIfInBounds q (.bool b) = bsV (l.set q b) := by unfold bsV; rw [List.setIfInBounds_toArray, List.map_set]
theorem bsV_at {l : List Bool} {q : Nat} {b : Bool} (h : l[q]? = some b) : (bsV l)[q]? = some (.bool b) := by unfold bsV; rw [List.getElem?_toArray, List.getElem?_map, h]; rfl
theorem infoBl : (Try.prog.info? 4).map (fun i => (i.zero, i.size, i.bytes)) = some (some (.bool false), 1, 1) := by kernel_rfl
theorem make_bools (N : Nat) (w : World) (hN : N ≤ 1000000) : (Instr.makeSlice 37 (.int .i64 (N : Int)) (.int .i64 (N : Int))).run Try.prog w = .ok (.slice (some ⟨w.heap.size, 0, none⟩) N N) (w.alloc (.cells (bsV (List.replicate N false)) 4)) := by
  obtain ⟨i0, hi0, hz0, hz1, hz2⟩ := info_parts infoBl
  have h := run_make (P := Try.prog) w 37 4 i0 (.bool false) Try.underlying37 hi0 hz0 .i64 .i64 (N : Int) (N : Int) (by omega) (Int.le_refl _) (by rw [hz2]; omega) (by omega)
  have hm : madeCells (Value.bool false).cells (N * 1) = bsV (List.replicate N false) := by
    unfold bsV
    apply Array.ext
    · simp [size_madeCells]
    · intro i h1 h2
      simp only [madeCells, Array.getElem_map, Array.getElem_range, List.getElem_toArray, List.getElem_map, List.getElem_replicate]
      have : i % (Value.bool false).cells.size = 0 := by show i % 1 = 0; omega
      rw [this]; rfl
  rw [hz1, show ((N : Int)).toNat = N by omega, hm] at h
  exact h
/-- What the law asks, plain: who can be blamed is asked for. -/
theorem asked {l : List Tn} {N : Nat} (h : ∀ c ∈ l, Cst c ∧ c.n ≤ (N : Int)) {i : Nat} (hi : i < N) :
    (decide ((i : Int) + 1 ∈ blL l) = true → (l.any fun c => decide (c.n = (i : Int) + 1) && pI c) = true) ∧ (decide (-((i : Int) + 1) ∈ blL l) = true → (l.any fun c => decide (c.n = (i : Int) + 1) && pC c) = true) := by
  have key : ∀ c ∈ l, (plusC c = false → pI c = true) ∧ (minusC c = false → pC c = true) := fun c hc => by
    have hcs := (h c hc).1
    have s1 := ty_spec hcs.1
    have s2 := ty_spec hcs.2.1
    constructor
    · intro hp
      unfold pI
      rcases hq : allT askP (ty c.t) (ty c.u)
      · rfl
      · have := plus_le s1.1 s2.1 hq
        unfold plusC at hp
        rw [hp] at this; cases this
    · intro hp
      unfold pC
      rcases hq : allT askP (ty c.u) (ty c.t)
      · rfl
      · have := minus_le s1.1 s2.1 hq
        unfold minusC at hp
        rw [hp] at this; cases this
  constructor
  · intro hd
    obtain ⟨c, hc, hb⟩ := List.mem_flatMap.1 (of_decide_eq_true hd)
    have h1 := (h c hc).1.2.2.2
    rcases blC_mem.1 hb with ⟨hp, e⟩ | ⟨_, e⟩
    · exact List.any_eq_true.2 ⟨c, hc, by rw [(key c hc).1 hp, Bool.and_true]; exact decide_eq_true e.symm⟩
    · omega
  · intro hd
    obtain ⟨c, hc, hb⟩ := List.mem_flatMap.1 (of_decide_eq_true hd)
    have h1 := (h c hc).1.2.2.2
    rcases blC_mem.1 hb with ⟨_, e⟩ | ⟨hp, e⟩
    · omega
    · exact List.any_eq_true.2 ⟨c, hc, by rw [(key c hc).2 hp, Bool.and_true]; exact decide_eq_true (by omega)⟩
theorem sides_cells {W : World} {base N n i : Nat} {A : Option Addr} {s : List (Bool × Bool)} {x : Bool × Bool} (h : W.ownsRow base 42 2 (.slice A N n) N (sdV s)) (hi : i < N) (hx : s[i]? = some x) :
    ∃ b, A = some ⟨b, 0, none⟩ ∧ b < W.heap.size ∧ W.cell? ⟨b, i * 2, none⟩ = some (.bool x.1) ∧ W.cell? ⟨b, i * 2 + 1, none⟩ = some (.bool x.2) := by
  obtain ⟨g, cap, hv, _, hlt⟩ := h.form (by omega)
  injection hv with hA _ _
  subst hA
  have hat : ∀ (s : List (Bool × Bool)) (i : Nat) (x : Bool × Bool), s[i]? = some x → (sdV s)[i * 2]? = some (.bool x.1) ∧ (sdV s)[i * 2 + 1]? = some (.bool x.2) := by
    intro s
    induction s with
    | nil => intro i x h; simp at h
    | cons y s ih =>
      intro i x h
      cases i with
      | zero => simp at h; subst h; exact ⟨rfl, rfl⟩
      | succ i =>
        have := ih i x (by simpa using h)
        simp only [sdV, List.flatMap_cons] at *
        rw [show (i + 1) * 2 = i * 2 + 2 by omega, show i * 2 + 2 + 1 = (i * 2 + 1) + 2 by omega]
        exact this
  obtain ⟨h1, h2⟩ := hat s i x hx
  have k1 := h.cells (g := g) rfl _ _ h1
  have k2 := h.cells (g := g) rfl _ _ h2
  rw [add_flat, Nat.zero_add] at k1 k2
  exact ⟨g, rfl, hlt, k1, k2⟩

set_option maxRecDepth 100000 in
set_option maxHeartbeats 8000000 in
theorem judgePrecise_walk (L : List Tn) (T : ByteArray) (l : List Site) (A : Option Addr) (c : Nat) (B : Option Addr) (d : Nat) (W : World) (hLb : L.length ≤ 4611686018427387904) (hlb : l.length ≤ 4611686018427387904) (hLc : L.length ≤ c) (hA : Sl W W.heap.size 8 A L.length (tns L)) (hB : Sl W W.heap.size 5 B l.length (cells l))
    (hS : ∀ x ∈ L, x.small) (hok : ∀ s ∈ l, s.mo.size ≤ 140737488351232 ∧ s.ex.size ≤ 140737488351232) :
    Calls Try.prog 3 #[.agg #[.slice A L.length c, .string T, .slice B l.length d]] W fun e w' => e = .returned (.bool true) ∧ Below W.heap.size W w' := by
  have hmu := fun W' (hb : Below W.heap.size W W') => muchJ L A c T l B d W' (by omega) (by omega) hS hok (lt_sl ((hA.below hb).more hb.size)) ((hB.below hb).more hb.size)
  have hcp := fun (h1 : L.length ≤ 32768) (h2 : l.length ≤ 16384) W' (hb : Below W.heap.size W W') => copyProgram_any L T l A c B d W' (by omega) h2 ((hA.below hb).more hb.size) ((hB.below hb).more hb.size)
  have hsd := fun (h1 : L.length ≤ 32768) (h2 : l.length ≤ 16384) W' A' c' B' d' (h3 : L.length ≤ c') (h : LT W' W'.heap.size A' L) => SidesJ_any L A' c' T B' l.length d' W' (by omega) (by omega) h3 hS h
  have hcn := fun (h1 : L.length ≤ 32768) W' (hb : Below W.heap.size W W') => copyNodesJ L A c W' (by omega) ((hA.below hb).more hb.size)
  have hca := fun (h1 : L.length ≤ 32768) W' A' c' (h3 : L.length ≤ c') (h : LT W' W'.heap.size A' L) => Casts_any L A' c' W' (by omega) h3 hS h
  have hwk := works_any
  have hck : (chkP L T l.length).1 = 0 → ∃ t, chk L = .ok t := fun h => by obtain ⟨_, ⟨t, h, _⟩, _⟩ := chkP_ok h; exact ⟨t, h⟩
  have hcl : (chkP L T l.length).1 = 0 → (chkP L T l.length).2 = laidL L ∧ ∀ c ∈ laidL L, Cst c ∧ c.n ≤ (l.length : Int) := fun h => by obtain ⟨h1, _, h2⟩ := chkP_ok h; exact ⟨h1, h2⟩
  have hlm : (laidL L).length ≤ L.length := by have := laid_le L L.length; rwa [List.take_of_length_le (Nat.le_refl _)] at this
  have HW := Lib.hid (And.intro hmu (And.intro hcp (And.intro hsd (And.intro hcn (And.intro hca (And.intro hck (And.intro hcl hlm)))))))
  have HK := Lib.hid hwk
  unfold PrgAt CastsQ at HW
  clear hmu hcp hsd hcn hca hck hcl hlm hwk hA hB hS hok hLc
  generalize chkP L T l.length = R at *
  generalize chk L = CK at *
  generalize laidL L = cl at *
  generalize l.length = N at *
  generalize hn : L.length = n at *
  have HN := Lib.hid hn
  clear hn
  go_enter Try.func3, Try.ntmps3
  go_wp2_with fail
  obtain ⟨W0, hW0⟩ : ∃ W0, W.alloc (.cells #[.slice A n c, .string T, .slice B N d] 25) = W0 := ⟨_, rfl⟩
  have hbx : Blk W0 W.heap.size 25 #[.slice A n c, .string T, .slice B N d] := by rw [← hW0]; exact Blk.new _ _ _
  have hbw : Below W.heap.size W W0 := by rw [← hW0]; exact bal b0 _
  rw [hW0]
  have h1 := HW.out.1 W0 hbw
  clear hW0
  have H0 := Lib.hid (And.intro hbx hbw)
  clear hbx hbw
  (refine h1.mono ?_); rintro e w1 ⟨⟨v, rfl, hv⟩, hb1⟩
  have hbx1 := H0.out.1.below hb1 H0.out.1.lt
  have hbw1 := bl H0.out.2 hb1
  clear hb1 h1
  obtain ⟨g, hg⟩ : ∃ g, W.heap.size = g := ⟨_, rfl⟩
  cases v
  rotate_left
  · have HB := Lib.hid hbw1
    clear hbw1 hbx1 hv hg
    go_wp2_with fail
    (refine (HK.out _).mono ?_); rintro e w2 ⟨rfl, hb2⟩
    have HB2 := Lib.hid (bl HB.out hb2)
    clear hb2
    go_wp2_with fail
    go_ret
    exact ⟨rfl, HB2.out⟩
  have hv2 := hv rfl
  have c0 : w1.cell? ⟨W.heap.size, 0, none⟩ = some (.slice A n c) := (hbx1.cell 0).trans rfl
  have c1 : w1.cell? ⟨W.heap.size, 1, none⟩ = some (.string T) := (hbx1.cell 1).trans rfl
  have c2 : w1.cell? ⟨W.heap.size, 2, none⟩ = some (.slice B N d) := (hbx1.cell 2).trans rfl
  have h2 := HW.out.2.1 hv2.1 hv2.2 w1 hbw1
  have H1 := Lib.hid (And.intro hbx1 (And.intro hbw1 hv2))
  clear hbx1 hbw1 hv hv2 hg
  go_wp2_with fail
  (refine h2.mono ?_); rintro e w2 ⟨v, rfl, ⟨A2, q2, B2, d2, rfl, hq2, hs2, _⟩, hb2⟩
  have h3 := HW.out.2.2.1 H1.out.2.2.1 H1.out.2.2.2 w2 A2 q2 B2 d2 hq2 (lt_sln HN.out hs2)
  have hbx2 := H1.out.1.below hb2 H1.out.1.lt
  have hbw2 := bl H1.out.2.1 hb2
  have H2 := Lib.hid (And.intro hbx2 hbw2)
  clear hbx2 hbw2 hs2 hb2 h2 c0 c1 c2 hq2
  go_wp2_with fail
  (refine h3.mono ?_); rintro e w3 ⟨hb3, hq⟩
  have hbx3 := H2.out.1.below hb3 H2.out.1.lt
  have hbw3 := bl H2.out.2 hb3
  by_cases hR : R.1 = 0
  rotate_left
  · rw [if_neg hR] at hq
    subst hq
    have e1 : (R.1 != 0) = true := by simpa using hR
    generalize R.1 = E at *
    have HB := Lib.hid hbw3
    clear hbw3 hbx3 hb3 h3 hR
    go_wp2_with fail
    (refine (HK.out _).mono ?_); rintro e w4 ⟨rfl, hb4⟩
    have HB2 := Lib.hid (bl HB.out hb4)
    clear hb4
    go_wp2_with fail
    go_ret
    exact ⟨rfl, HB2.out⟩
  rw [if_pos hR] at hq
  obtain ⟨v, rfl, ho3⟩ := hq
  obtain ⟨hR2, hcst⟩ := HW.out.2.2.2.2.2.2.1 hR
  obtain ⟨t, ht⟩ := HW.out.2.2.2.2.2.1 hR
  rw [hR2] at ho3
  obtain ⟨As, cs, rfl, _, _⟩ := own_shape ho3
  have hcn := HW.out.2.2.2.1 H1.out.2.2.1 w3 hbw3
  have hca := HW.out.2.2.2.2.1 H1.out.2.2.1
  simp only [ht] at hca
  have hM := HW.out.2.2.2.2.2.2.2
  have hnb := H1.out.2.2
  have c0 : w3.cell? ⟨W.heap.size, 0, none⟩ = some (.slice A n c) := (hbx3.cell 0).trans rfl
  have c2 : w3.cell? ⟨W.heap.size, 2, none⟩ = some (.slice B N d) := (hbx3.cell 2).trans rfl
  have H3 := Lib.hid (And.intro hbx3 (And.intro hbw3 (And.intro ho3 (And.intro hcst (And.intro hM hnb)))))
  have HCA := Lib.hid hca
  clear hbx3 hbw3 ho3 hcst hM hnb hca ht hR2 hR hb3 h3 H2 H1 H0 HW R CK
  have hmb := fun W' => make_bools N W' (by have := H3.out.2.2.2.2.2.2; omega)
  go_wp2_with fail
  (refine hcn.mono ?_); rintro e w4 ⟨A4, q4, rfl, hq4, ho4, hb4⟩
  have h5 := HCA.out w4 A4 q4 hq4 (lt_sln HN.out (sl_own ho4))
  have hbx4 := H3.out.1.below hb4 H3.out.1.lt
  have H4 := Lib.hid (And.intro hbx4 hb4)
  clear hbx4 hb4 ho4 hcn c0 c2 hq4
  go_wp2_with fail
  (refine h5.mono ?_); rintro e w5 ⟨hb5, v, rfl, ho5⟩
  obtain ⟨Ac, qc, rfl, _, _⟩ := own_shape ho5
  obtain ⟨M, hMe⟩ : ∃ M, cl.length = M := ⟨_, rfl⟩
  rw [hMe] at ho5 ⊢
  have hbx5 := H4.out.1.below hb5 H4.out.1.lt
  have hb35 := bl H4.out.2 hb5
  have c2 : w5.cell? ⟨W.heap.size, 2, none⟩ = some (.slice B N d) := (hbx5.cell 2).trans rfl
  have hMb : M ≤ 32768 := by have := H3.out.2.2.2.2; omega
  obtain ⟨gi, hgi⟩ : ∃ gi, w5.heap.size = gi := ⟨_, rfl⟩
  have H5 := Lib.hid (And.intro hb35 (And.intro ho5 (And.intro hMe hgi)))
  clear hbx5 hb35 ho5 hMe h5 hb5 H4 HCA
  go_wp2_with fail
  obtain ⟨w6, hw6⟩ : ∃ w6, (w5.alloc (.cells (bsV (List.replicate N false)) 4)).alloc (.cells (bsV (List.replicate N false)) 4) = w6 := ⟨_, rfl⟩
  have hgi := H5.out.2.2.2
  have k1 : Blk w6 gi 4 (bsV (List.replicate N false)) := by rw [← hw6, ← hgi]; exact (Blk.new w5 _ _).alloc _
  have k2 : Blk w6 (gi + 1) 4 (bsV (List.replicate N false)) := by rw [← hw6, ← hgi]; have := Blk.new (w5.alloc (.cells (bsV (List.replicate N false)) 4)) 4 (bsV (List.replicate N false)); simpa only [World.size_alloc] using this
  have hb56 : Below w5.heap.size w5 w6 := by rw [← hw6]; exact bal (bal b0 _) _
  rw [hw6]
  have H6 := Lib.hid (And.intro k1 (And.intro k2 (And.intro hb56 (own_below H5.out.2.1 hb56))))
  clear hw6 hgi k1 k2 hb56 c2
  go_loopg [8] M (fun q i wr => ∃ k : Nat, k ≤ M ∧ q = M - k ∧ i = .int .i64 k ∧ Blk wr gi 4 (bsV (insL pI (cl.take k) N)) ∧ Blk wr (gi + 1) 4 (bsV (insL pC (cl.take k) N)) ∧ Below gi w6 wr)
  case atStart => exact ⟨0, Nat.zero_le _, rfl, rfl, by rw [List.take_zero, insL_nil]; exact H6.out.1, by rw [List.take_zero, insL_nil]; exact H6.out.2.1, Below.refl _ _⟩
  case round =>
    obtain ⟨k, hk, rfl, rfl, k1, k2, hbr⟩ := hrel
    by_cases hlt : k < M
    · obtain ⟨s, hs⟩ : ∃ s, cl[k]? = some s := ⟨_, List.getElem?_eq_getElem (by rw [H5.out.2.2.1]; exact hlt)⟩
      obtain ⟨bb, rfl, hbb, d0, d1, d2⟩ := ld_cells H5.out.2.1 hlt hs
      have hbgi : bb < gi := by have := H5.out.2.2.2; omega
      have hto : ∀ o u, w5.cell? ⟨bb, o, none⟩ = some u → wr.cell? ⟨bb, o, none⟩ = some u := fun o u h => (hbr.cell (p := ⟨bb, o, none⟩) hbgi).trans ((H6.out.2.2.1.cell (p := ⟨bb, o, none⟩) hbb).trans h)
      replace d0 := hto _ _ d0
      replace d1 := hto _ _ d1
      replace d2 := hto _ _ d2
      obtain ⟨hcs, hcN⟩ := H3.out.2.2.2.1 s (List.mem_of_getElem? hs)
      obtain ⟨q, hq⟩ : ∃ q : Nat, s.n = (q : Int) + 1 := ⟨(s.n - 1).toNat, by have := hcs.2.2.2.1; omega⟩
      have hqN : q < N := by omega
      rw [hq] at d0
      obtain ⟨sok, st, s64⟩ := ty_spec hcs.1
      obtain ⟨uok, ut, u64⟩ := ty_spec hcs.2.1
      have hp1 := fun w => Prec_yes (ty s.t) (ty s.u) w sok uok s64 u64
      have hp2 := fun w => Prec_yes (ty s.u) (ty s.t) w uok sok u64 s64
      rw [← st, ← ut] at hp1 hp2
      obtain ⟨x1, hx1⟩ : ∃ x1, allT askP (ty s.t) (ty s.u) = x1 := ⟨_, rfl⟩
      obtain ⟨x2, hx2⟩ : ∃ x2, allT askP (ty s.u) (ty s.t) = x2 := ⟨_, rfl⟩
      rw [hx1] at hp1
      rw [hx2] at hp2
      have hxI : pI s = !x1 := by unfold pI; rw [hx1]
      have hxC : pC s = !x2 := by unfold pC; rw [hx2]
      obtain ⟨b1, hb1⟩ : ∃ b1, (insL pI (cl.take k) N)[q]? = some b1 := ⟨_, insL_at pI _ hqN⟩
      obtain ⟨b2, hb2⟩ : ∃ b2, (insL pC (cl.take k) N)[q]? = some b2 := ⟨_, insL_at pC _ hqN⟩
      have hnext : cl.take (k + 1) = cl.take k ++ [s] := by rw [List.take_add_one, hs]; rfl
      have e1 : wr.cell? ⟨gi, q, none⟩ = some (.bool b1) := (k1.cell q).trans (bsV_at hb1)
      have e2 : wr.cell? ⟨gi + 1, q, none⟩ = some (.bool b2) := (k2.cell q).trans (bsV_at hb2)
      have f1 := k1.frozen q
      have f2 := k2.frozen q
      have n1 : insL pI (cl.take (k + 1)) N = (insL pI (cl.take k) N).set q (b1 || !x1) := by rw [hnext, insL_step pI _ s hqN hq hb1, hxI]
      have n2 : insL pC (cl.take (k + 1)) N = (insL pC (cl.take k) N).set q (b2 || !x2) := by rw [hnext, insL_step pC _ s hqN hq hb2, hxC]
      have hge : decide ((N : Int) ≤ (q : Int)) = false := by simp; omega
      have HB2 := Lib.hid hb2
      have HQ := Lib.hid (And.intro n1 (And.intro n2 hqN))
      have HR := Lib.hid (And.intro k1 (And.intro k2 hbr))
      have hbw : bb < wr.heap.size := Nat.lt_of_lt_of_le hbgi (Nat.le_of_lt k1.lt)
      have HP := Lib.hid (And.intro hp1 hp2)
      have hqb : q ≤ 32768 := by have := H3.out.2.2.2.2.2.2; omega
      have HBB := Lib.hid (And.intro hbgi hbw)
      have HG2 := Lib.hid k2.lt
      clear hp1 hp2 hx1 hx2 hxI hxC hb1 hb2 hnext n1 n2 st ut sok uok s64 u64 hs hq hcs hcN k1 k2 hbr hto hbgi hbb hbw
      go_upto_region 17 with fail
      obtain ⟨k1, k2, hbr⟩ := HR.out
      have HNE := Lib.hid (show ∀ (o j : Nat) (i : Nat), (j = gi ∨ j = gi + 1) → (⟨bb, o, none⟩ : Addr) ≠ ⟨j, i, none⟩ from fun o j i hj e => by
        injection e with e1
        have := HBB.out.1
        omega)
      have HG3 := Lib.hid (show gi ≤ wr.heap.size from Nat.le_of_lt k1.lt)
      have HK12 := Lib.hid (And.intro k1 (And.intro k2 hbr))
      clear k1 k2 hbr
      cases b1
      · skip
        refine wp_region_held_drew (S := (fun W' => wr.heap.size ≤ W'.heap.size ∧ W'.cell? ⟨bb, k * 3 + 1, none⟩ = some (.string s.t) ∧ W'.cell? ⟨bb, k * 3 + 2, none⟩ = some (.string s.u))) (by kernel_rfl) ?ss1 (fun hHeld => ?rr1)
        case ss1 => (try dsimp only); exact ⟨Nat.le_refl _, d1, d2⟩
        refine rgt 0 71 rfl rfl hHeld ?_
        try simp only [Act.put, rg1, rg2, rg3]
        refine rgt 1 72 rfl rfl hHeld ?_
        try simp only [Act.put, rg1, rg2, rg3]
        refine rgt 2 73 rfl rfl hHeld ?_
        try simp only [Act.put, rg1, rg2, rg3]
        refine rgt 3 74 rfl rfl hHeld ?_
        try simp only [Act.put, rg1, rg2, rg3]
        refine rgt 4 75 rfl rfl hHeld ?_
        try simp only [Act.put, rg1, rg2, rg3]
        refine rgc 5 (some 76) rfl (fun K hK => ?_)
        go_simp
        refine hK.out _ _ ?ss7 (fun hHeld2 => ?rr7)
        case ss7 => (try dsimp only); exact hHeld
        clear hK K
        clear hHeld2
        try simp only [Act.put, rg1, rg2, rg3]
        refine rgt 6 77 rfl rfl hHeld ?_
        try simp only [Act.put, rg1, rg2, rg3]
        refine rgt 7 78 rfl rfl hHeld ?_
        try simp only [Act.put, rg1, rg2, rg3]
        refine rgt 8 79 rfl rfl hHeld ?_
        try simp only [Act.put, rg1, rg2, rg3]
        refine rgt 9 80 rfl rfl hHeld ?_
        try simp only [Act.put, rg1, rg2, rg3]
        refine rgt 10 81 rfl rfl hHeld ?_
        try simp only [Act.put, rg1, rg2, rg3]
        refine rgt 11 82 rfl rfl hHeld ?_
        try simp only [Act.put, rg1, rg2, rg3]
        refine rgt 12 83 rfl rfl hHeld ?_
        try simp only [Act.put, rg1, rg2, rg3]
        refine rgt 13 84 rfl rfl hHeld ?_
        try simp only [Act.put, rg1, rg2, rg3]
        refine rgt 14 85 rfl rfl hHeld ?_
        try simp only [Act.put, rg1, rg2, rg3]
        refine rgt 15 86 rfl rfl hHeld ?_
        try simp only [Act.put, rg1, rg2, rg3]
        refine rgt 16 87 rfl rfl hHeld ?_
        try simp only [Act.put, rg1, rg2, rg3]
        refine rgc 17 (some 88) rfl (fun K hK => ?_)
        go_simp
        ((refine (HP.out.1 _).mono ?_); rintro e w7 ⟨rfl, hb7⟩; have y0 := (hb7.cell (p := ⟨gi, q, none⟩) HK12.out.1.lt).trans e1; have y1 := (hb7.frozen (p := ⟨gi, q, none⟩) HK12.out.1.lt).trans f1; have y2 := (hb7.cell (p := ⟨bb, k * 3 + 1, none⟩) HBB.out.2).trans d1; have y3 := (hb7.cell (p := ⟨bb, k * 3 + 2, none⟩) HBB.out.2).trans d2)
        refine hK.out _ _ ?ss19 (fun hHeld2 => ?rr19)
        case ss19 => (try dsimp only); exact ⟨hb7.size, y2, y3⟩
        clear hK K
        clear hHeld
        have hHeld := hHeld2
        clear hHeld2
        try simp only [Act.put, rg1, rg2, rg3]
        refine rgt 18 89 rfl rfl hHeld ?_
        try simp only [Act.put, rg1, rg2, rg3]
        refine rgt 19 90 rfl rfl hHeld ?_
        try simp only [Act.put, rg1, rg2, rg3]
        refine rgt 20 91 rfl rfl hHeld ?_
        try simp only [Act.put, rg1, rg2, rg3]
        refine rgc 21 (none) rfl (fun K hK => ?_)
        go_simp
        go_simp
        refine hK.out _ _ ?ss23 (fun hHeld2 => ?rr23)
        case ss23 => (try dsimp only); exact ⟨by first | (rw [World.size_setCell]; exact hHeld.1) | simpa using hHeld.1, (World.cell?_setCell_other _ _ _ _ (by first | exact HNE.out _ _ _ (by first | exact .inl rfl | exact .inr rfl) | exact fun e => HNE.out _ _ _ (by first | exact .inl rfl | exact .inr rfl) e.symm)).trans y2, (World.cell?_setCell_other _ _ _ _ (by first | exact HNE.out _ _ _ (by first | exact .inl rfl | exact .inr rfl) | exact fun e => HNE.out _ _ _ (by first | exact .inl rfl | exact .inr rfl) e.symm)).trans y3⟩
        clear hK K
        clear hHeld
        have hHeld := hHeld2
        clear hHeld2
        try simp only [Act.put, rg1, rg2, rg3]
        refine wpAnyH_done (by kernel_rfl) ?_ _
        obtain ⟨k1, k2, hbr⟩ := HK12.out
        obtain ⟨W7, hW7⟩ : ∃ X, w7.setCell ⟨gi, q, none⟩ (.bool !x1) = X := ⟨_, rfl⟩
        rw [hW7]
        have gW7 : Below gi wr W7 := by rw [← hW7]; exact ((bl (Below.refl wr.heap.size wr).drew hb7).mono (by have := k1.lt; omega)).setCell (p := ⟨gi, q, none⟩) (by simp) _
        have aW7 : Blk W7 (gi) 4 (bsV (insL pI (cl.take (k + 1)) N)) := by rw [← hW7, HQ.out.1, Bool.false_or, ← bsV_set]; exact Blk.set_ (Blk.below k1 (bl (Below.refl wr.heap.size wr).drew hb7) k1.lt) q (.bool !x1)
        have cW7 : Blk W7 (gi + 1) 4 (bsV (insL pC (cl.take k) N)) := by rw [← hW7]; exact Blk.far (Blk.below k2 (bl (Below.refl wr.heap.size wr).drew hb7) k2.lt) (by simp) _
        have d1' := (gW7.cell (p := ⟨bb, k * 3 + 1, none⟩) HBB.out.1).trans d1
        have d2' := (gW7.cell (p := ⟨bb, k * 3 + 2, none⟩) HBB.out.1).trans d2
        have e2' : W7.cell? ⟨gi + 1, q, none⟩ = some (.bool b2) := (cW7.cell q).trans (bsV_at HB2.out)
        have f2' := cW7.frozen q
        have H7 := Lib.hid (And.intro aW7 (And.intro cW7 (And.intro (hbr.trans gW7) (show bb < W7.heap.size from Nat.lt_trans HBB.out.1 (Nat.lt_trans (Nat.lt_succ_self _) cW7.lt)))))
        clear k1 k2 hbr gW7 aW7 cW7 hW7 d1 d2 e1 e2 f1 f2 hb7 y0 y1 y2 y3
        go_upto_region 18 with fail
        cases b2
        · skip
          refine wp_region_held_drew (S := (fun W' => W7.heap.size ≤ W'.heap.size ∧ W'.cell? ⟨bb, k * 3 + 1, none⟩ = some (.string s.t) ∧ W'.cell? ⟨bb, k * 3 + 2, none⟩ = some (.string s.u))) (by kernel_rfl) ?ss24 (fun hHeld => ?rr24)
          case ss24 => (try dsimp only); exact ⟨Nat.le_refl _, d1', d2'⟩
          refine rgt 0 92 rfl rfl hHeld ?_
          try simp only [Act.put, rg1, rg2, rg3]
          refine rgt 1 93 rfl rfl hHeld ?_
          try simp only [Act.put, rg1, rg2, rg3]
          refine rgt 2 94 rfl rfl hHeld ?_
          try simp only [Act.put, rg1, rg2, rg3]
          refine rgt 3 95 rfl rfl hHeld ?_
          try simp only [Act.put, rg1, rg2, rg3]
          refine rgt 4 96 rfl rfl hHeld ?_
          try simp only [Act.put, rg1, rg2, rg3]
          refine rgc 5 (some 97) rfl (fun K hK => ?_)
          go_simp
          refine hK.out _ _ ?ss30 (fun hHeld2 => ?rr30)
          case ss30 => (try dsimp only); exact hHeld
          clear hK K
          clear hHeld2
          try simp only [Act.put, rg1, rg2, rg3]
          refine rgt 6 98 rfl rfl hHeld ?_
          try simp only [Act.put, rg1, rg2, rg3]
          refine rgt 7 99 rfl rfl hHeld ?_
          try simp only [Act.put, rg1, rg2, rg3]
          refine rgt 8 100 rfl rfl hHeld ?_
          try simp only [Act.put, rg1, rg2, rg3]
          refine rgt 9 101 rfl rfl hHeld ?_
          try simp only [Act.put, rg1, rg2, rg3]
          refine rgt 10 102 rfl rfl hHeld ?_
          try simp only [Act.put, rg1, rg2, rg3]
          refine rgt 11 103 rfl rfl hHeld ?_
          try simp only [Act.put, rg1, rg2, rg3]
          refine rgt 12 104 rfl rfl hHeld ?_
          try simp only [Act.put, rg1, rg2, rg3]
          refine rgt 13 105 rfl rfl hHeld ?_
          try simp only [Act.put, rg1, rg2, rg3]
          refine rgt 14 106 rfl rfl hHeld ?_
          try simp only [Act.put, rg1, rg2, rg3]
          refine rgt 15 107 rfl rfl hHeld ?_
          try simp only [Act.put, rg1, rg2, rg3]
          refine rgt 16 108 rfl rfl hHeld ?_
          try simp only [Act.put, rg1, rg2, rg3]
          refine rgc 17 (some 109) rfl (fun K hK => ?_)
          go_simp
          ((refine (HP.out.2 _).mono ?_); rintro e w7 ⟨rfl, hb7⟩; have y0 := (hb7.cell (p := ⟨gi + 1, q, none⟩) H7.out.2.1.lt).trans e2'; have y1 := (hb7.frozen (p := ⟨gi + 1, q, none⟩) H7.out.2.1.lt).trans f2'; have y2 := (hb7.cell (p := ⟨bb, k * 3 + 1, none⟩) H7.out.2.2.2).trans d1'; have y3 := (hb7.cell (p := ⟨bb, k * 3 + 2, none⟩) H7.out.2.2.2).trans d2')
          refine hK.out _ _ ?ss42 (fun hHeld2 => ?rr42)
          case ss42 => (try dsimp only); exact ⟨hb7.size, y2, y3⟩
          clear hK K
          clear hHeld
          have hHeld := hHeld2
          clear hHeld2
          try simp only [Act.put, rg1, rg2, rg3]
          refine rgt 18 110 rfl rfl hHeld ?_
          try simp only [Act.put, rg1, rg2, rg3]
          refine rgt 19 111 rfl rfl hHeld ?_
          try simp only [Act.put, rg1, rg2, rg3]
          refine rgt 20 112 rfl rfl hHeld ?_
          try simp only [Act.put, rg1, rg2, rg3]
          refine rgc 21 (none) rfl (fun K hK => ?_)
          go_simp
          go_simp
          refine hK.out _ _ ?ss46 (fun hHeld2 => ?rr46)
          case ss46 => (try dsimp only); exact ⟨by first | (rw [World.size_setCell]; exact hHeld.1) | simpa using hHeld.1, (World.cell?_setCell_other _ _ _ _ (by first | exact HNE.out _ _ _ (by first | exact .inl rfl | exact .inr rfl) | exact fun e => HNE.out _ _ _ (by first | exact .inl rfl | exact .inr rfl) e.symm)).trans y2, (World.cell?_setCell_other _ _ _ _ (by first | exact HNE.out _ _ _ (by first | exact .inl rfl | exact .inr rfl) | exact fun e => HNE.out _ _ _ (by first | exact .inl rfl | exact .inr rfl) e.symm)).trans y3⟩
          clear hK K
          clear hHeld
          have hHeld := hHeld2
          clear hHeld2
          try simp only [Act.put, rg1, rg2, rg3]
          refine wpAnyH_done (by kernel_rfl) ?_ _
          obtain ⟨k1, k2, hbr, _⟩ := H7.out
          obtain ⟨W8, hW8⟩ : ∃ X, w7.setCell ⟨gi + 1, q, none⟩ (.bool !x2) = X := ⟨_, rfl⟩
          rw [hW8]
          have gW8 : Below gi W7 W8 := by rw [← hW8]; exact ((bl (Below.refl W7.heap.size W7).drew hb7).mono (by have := k2.lt; omega)).setCell (p := ⟨gi + 1, q, none⟩) (by simp) _
          have aW8 : Blk W8 (gi + 1) 4 (bsV (insL pC (cl.take (k + 1)) N)) := by rw [← hW8, HQ.out.2.1, Bool.false_or, ← bsV_set]; exact Blk.set_ (Blk.below k2 (bl (Below.refl W7.heap.size W7).drew hb7) k2.lt) q (.bool !x2)
          have cW8 : Blk W8 (gi) 4 (bsV (insL pI (cl.take (k + 1)) N)) := by rw [← hW8]; exact Blk.far (Blk.below k1 (bl (Below.refl W7.heap.size W7).drew hb7) k1.lt) (by simp) _
          have H8 := Lib.hid (And.intro cW8 (And.intro aW8 (hbr.trans gW8)))
          clear k1 k2 hbr gW8 aW8 cW8 hW8 d1' d2' e2' f2' hb7 y0 y1 y2 y3
          go_wp2_with fail
          go_roundg (M - (k + 1))
          case measure => omega
          case rel => exact ⟨k + 1, by omega, rfl, by go_num, H8.out.1, H8.out.2.1, H8.out.2.2⟩
        · skip
          refine wp_region_held_drew (S := (fun W' => W7.heap.size ≤ W'.heap.size ∧ W'.cell? ⟨bb, k * 3 + 1, none⟩ = some (.string s.t) ∧ W'.cell? ⟨bb, k * 3 + 2, none⟩ = some (.string s.u))) (by kernel_rfl) ?ss47 (fun hHeld => ?rr47)
          case ss47 => (try dsimp only); exact ⟨Nat.le_refl _, d1', d2'⟩
          refine rgt 0 92 rfl rfl hHeld ?_
          try simp only [Act.put, rg1, rg2, rg3]
          refine rgt 1 93 rfl rfl hHeld ?_
          try simp only [Act.put, rg1, rg2, rg3]
          refine rgt 2 94 rfl rfl hHeld ?_
          try simp only [Act.put, rg1, rg2, rg3]
          refine rgt 3 95 rfl rfl hHeld ?_
          try simp only [Act.put, rg1, rg2, rg3]
          refine rgt 4 96 rfl rfl hHeld ?_
          try simp only [Act.put, rg1, rg2, rg3]
          refine rgc 5 (some 97) rfl (fun K hK => ?_)
          go_simp
          refine hK.out _ _ ?ss53 (fun hHeld2 => ?rr53)
          case ss53 => (try dsimp only); exact hHeld
          clear hK K
          clear hHeld2
          try simp only [Act.put, rg1, rg2, rg3]
          refine rgt 6 98 rfl rfl hHeld ?_
          try simp only [Act.put, rg1, rg2, rg3]
          refine rgn 7 99 rfl rfl hHeld ?_
          try simp only [Act.put, rg1, rg2, rg3]
          refine rgn 8 100 rfl rfl hHeld ?_
          try simp only [Act.put, rg1, rg2, rg3]
          refine rgn 9 101 rfl rfl hHeld ?_
          try simp only [Act.put, rg1, rg2, rg3]
          refine rgn 10 102 rfl rfl hHeld ?_
          try simp only [Act.put, rg1, rg2, rg3]
          refine rgn 11 103 rfl rfl hHeld ?_
          try simp only [Act.put, rg1, rg2, rg3]
          refine rgn 12 104 rfl rfl hHeld ?_
          try simp only [Act.put, rg1, rg2, rg3]
          refine rgn 13 105 rfl rfl hHeld ?_
          try simp only [Act.put, rg1, rg2, rg3]
          refine rgn 14 106 rfl rfl hHeld ?_
          try simp only [Act.put, rg1, rg2, rg3]
          refine rgn 15 107 rfl rfl hHeld ?_
          try simp only [Act.put, rg1, rg2, rg3]
          refine rgn 16 108 rfl rfl hHeld ?_
          try simp only [Act.put, rg1, rg2, rg3]
          refine rgn 17 109 rfl rfl hHeld ?_
          try simp only [Act.put, rg1, rg2, rg3]
          refine rgn 18 110 rfl rfl hHeld ?_
          try simp only [Act.put, rg1, rg2, rg3]
          refine rgt 19 111 rfl rfl hHeld ?_
          try simp only [Act.put, rg1, rg2, rg3]
          refine rgt 20 112 rfl rfl hHeld ?_
          try simp only [Act.put, rg1, rg2, rg3]
          refine rgc 21 (none) rfl (fun K hK => ?_)
          go_simp
          go_simp
          refine hK.out _ _ ?ss69 (fun hHeld2 => ?rr69)
          case ss69 => (try dsimp only); exact ⟨by simp, (World.cell?_setCell_other _ _ _ _ (by first | exact HNE.out _ _ _ (by first | exact .inl rfl | exact .inr rfl) | exact fun e => HNE.out _ _ _ (by first | exact .inl rfl | exact .inr rfl) e.symm)).trans d1', (World.cell?_setCell_other _ _ _ _ (by first | exact HNE.out _ _ _ (by first | exact .inl rfl | exact .inr rfl) | exact fun e => HNE.out _ _ _ (by first | exact .inl rfl | exact .inr rfl) e.symm)).trans d2'⟩
          clear hK K
          clear hHeld
          have hHeld := hHeld2
          clear hHeld2
          try simp only [Act.put, rg1, rg2, rg3]
          refine wpAnyH_done (by kernel_rfl) ?_ _
          obtain ⟨k1, k2, hbr, _⟩ := H7.out
          obtain ⟨W8, hW8⟩ : ∃ X, (W7.setCell ⟨gi + 1, q, none⟩ (.bool true)).drew = X := ⟨_, rfl⟩
          rw [hW8]
          have gW8 : Below gi W7 W8 := by rw [← hW8]; exact below_drewN ((Below.refl gi W7).setCell (p := ⟨gi + 1, q, none⟩) (by simp) _) 1
          have aW8 : Blk W8 (gi + 1) 4 (bsV (insL pC (cl.take (k + 1)) N)) := by rw [← hW8, HQ.out.2.1, Bool.true_or, ← bsV_set]; exact Blk.set_ k2 q (.bool true)
          have cW8 : Blk W8 (gi) 4 (bsV (insL pI (cl.take (k + 1)) N)) := by rw [← hW8]; exact Blk.far k1 (by simp) _
          have H8 := Lib.hid (And.intro cW8 (And.intro aW8 (hbr.trans gW8)))
          clear k1 k2 hbr gW8 aW8 cW8 hW8 d1' d2' e2' f2' 
          go_wp2_with fail
          go_roundg (M - (k + 1))
          case measure => omega
          case rel => exact ⟨k + 1, by omega, rfl, by go_num, H8.out.1, H8.out.2.1, H8.out.2.2⟩
      
      · skip
        refine wp_region_held_drew (S := (fun W' => wr.heap.size ≤ W'.heap.size ∧ W'.cell? ⟨bb, k * 3 + 1, none⟩ = some (.string s.t) ∧ W'.cell? ⟨bb, k * 3 + 2, none⟩ = some (.string s.u))) (by kernel_rfl) ?ss70 (fun hHeld => ?rr70)
        case ss70 => (try dsimp only); exact ⟨Nat.le_refl _, d1, d2⟩
        refine rgt 0 71 rfl rfl hHeld ?_
        try simp only [Act.put, rg1, rg2, rg3]
        refine rgt 1 72 rfl rfl hHeld ?_
        try simp only [Act.put, rg1, rg2, rg3]
        refine rgt 2 73 rfl rfl hHeld ?_
        try simp only [Act.put, rg1, rg2, rg3]
        refine rgt 3 74 rfl rfl hHeld ?_
        try simp only [Act.put, rg1, rg2, rg3]
        refine rgt 4 75 rfl rfl hHeld ?_
        try simp only [Act.put, rg1, rg2, rg3]
        refine rgc 5 (some 76) rfl (fun K hK => ?_)
        go_simp
        refine hK.out _ _ ?ss76 (fun hHeld2 => ?rr76)
        case ss76 => (try dsimp only); exact hHeld
        clear hK K
        clear hHeld2
        try simp only [Act.put, rg1, rg2, rg3]
        refine rgt 6 77 rfl rfl hHeld ?_
        try simp only [Act.put, rg1, rg2, rg3]
        refine rgn 7 78 rfl rfl hHeld ?_
        try simp only [Act.put, rg1, rg2, rg3]
        refine rgn 8 79 rfl rfl hHeld ?_
        try simp only [Act.put, rg1, rg2, rg3]
        refine rgn 9 80 rfl rfl hHeld ?_
        try simp only [Act.put, rg1, rg2, rg3]
        refine rgn 10 81 rfl rfl hHeld ?_
        try simp only [Act.put, rg1, rg2, rg3]
        refine rgn 11 82 rfl rfl hHeld ?_
        try simp only [Act.put, rg1, rg2, rg3]
        refine rgn 12 83 rfl rfl hHeld ?_
        try simp only [Act.put, rg1, rg2, rg3]
        refine rgn 13 84 rfl rfl hHeld ?_
        try simp only [Act.put, rg1, rg2, rg3]
        refine rgn 14 85 rfl rfl hHeld ?_
        try simp only [Act.put, rg1, rg2, rg3]
        refine rgn 15 86 rfl rfl hHeld ?_
        try simp only [Act.put, rg1, rg2, rg3]
        refine rgn 16 87 rfl rfl hHeld ?_
        try simp only [Act.put, rg1, rg2, rg3]
        refine rgn 17 88 rfl rfl hHeld ?_
        try simp only [Act.put, rg1, rg2, rg3]
        refine rgn 18 89 rfl rfl hHeld ?_
        try simp only [Act.put, rg1, rg2, rg3]
        refine rgt 19 90 rfl rfl hHeld ?_
        try simp only [Act.put, rg1, rg2, rg3]
        refine rgt 20 91 rfl rfl hHeld ?_
        try simp only [Act.put, rg1, rg2, rg3]
        refine rgc 21 (none) rfl (fun K hK => ?_)
        go_simp
        go_simp
        refine hK.out _ _ ?ss92 (fun hHeld2 => ?rr92)
        case ss92 => (try dsimp only); exact ⟨by simp, (World.cell?_setCell_other _ _ _ _ (by first | exact HNE.out _ _ _ (by first | exact .inl rfl | exact .inr rfl) | exact fun e => HNE.out _ _ _ (by first | exact .inl rfl | exact .inr rfl) e.symm)).trans d1, (World.cell?_setCell_other _ _ _ _ (by first | exact HNE.out _ _ _ (by first | exact .inl rfl | exact .inr rfl) | exact fun e => HNE.out _ _ _ (by first | exact .inl rfl | exact .inr rfl) e.symm)).trans d2⟩
        clear hK K
        clear hHeld
        have hHeld := hHeld2
        clear hHeld2
        try simp only [Act.put, rg1, rg2, rg3]
        refine wpAnyH_done (by kernel_rfl) ?_ _
        obtain ⟨k1, k2, hbr⟩ := HK12.out
        obtain ⟨W7, hW7⟩ : ∃ X, (wr.setCell ⟨gi, q, none⟩ (.bool true)).drew = X := ⟨_, rfl⟩
        rw [hW7]
        have gW7 : Below gi wr W7 := by rw [← hW7]; exact below_drewN ((Below.refl gi wr).setCell (p := ⟨gi, q, none⟩) (by simp) _) 1
        have aW7 : Blk W7 (gi) 4 (bsV (insL pI (cl.take (k + 1)) N)) := by rw [← hW7, HQ.out.1, Bool.true_or, ← bsV_set]; exact Blk.set_ k1 q (.bool true)
        have cW7 : Blk W7 (gi + 1) 4 (bsV (insL pC (cl.take k) N)) := by rw [← hW7]; exact Blk.far k2 (by simp) _
        have d1' := (gW7.cell (p := ⟨bb, k * 3 + 1, none⟩) HBB.out.1).trans d1
        have d2' := (gW7.cell (p := ⟨bb, k * 3 + 2, none⟩) HBB.out.1).trans d2
        have e2' : W7.cell? ⟨gi + 1, q, none⟩ = some (.bool b2) := (cW7.cell q).trans (bsV_at HB2.out)
        have f2' := cW7.frozen q
        have H7 := Lib.hid (And.intro aW7 (And.intro cW7 (And.intro (hbr.trans gW7) (show bb < W7.heap.size from Nat.lt_trans HBB.out.1 (Nat.lt_trans (Nat.lt_succ_self _) cW7.lt)))))
        clear k1 k2 hbr gW7 aW7 cW7 hW7 d1 d2 e1 e2 f1 f2 
        go_upto_region 18 with fail
        cases b2
        · skip
          refine wp_region_held_drew (S := (fun W' => W7.heap.size ≤ W'.heap.size ∧ W'.cell? ⟨bb, k * 3 + 1, none⟩ = some (.string s.t) ∧ W'.cell? ⟨bb, k * 3 + 2, none⟩ = some (.string s.u))) (by kernel_rfl) ?ss93 (fun hHeld => ?rr93)
          case ss93 => (try dsimp only); exact ⟨Nat.le_refl _, d1', d2'⟩
          refine rgt 0 92 rfl rfl hHeld ?_
          try simp only [Act.put, rg1, rg2, rg3]
          refine rgt 1 93 rfl rfl hHeld ?_
          try simp only [Act.put, rg1, rg2, rg3]
          refine rgt 2 94 rfl rfl hHeld ?_
          try simp only [Act.put, rg1, rg2, rg3]
          refine rgt 3 95 rfl rfl hHeld ?_
          try simp only [Act.put, rg1, rg2, rg3]
          refine rgt 4 96 rfl rfl hHeld ?_
          try simp only [Act.put, rg1, rg2, rg3]
          refine rgc 5 (some 97) rfl (fun K hK => ?_)
          go_simp
          refine hK.out _ _ ?ss99 (fun hHeld2 => ?rr99)
          case ss99 => (try dsimp only); exact hHeld
          clear hK K
          clear hHeld2
          try simp only [Act.put, rg1, rg2, rg3]
          refine rgt 6 98 rfl rfl hHeld ?_
          try simp only [Act.put, rg1, rg2, rg3]
          refine rgt 7 99 rfl rfl hHeld ?_
          try simp only [Act.put, rg1, rg2, rg3]
          refine rgt 8 100 rfl rfl hHeld ?_
          try simp only [Act.put, rg1, rg2, rg3]
          refine rgt 9 101 rfl rfl hHeld ?_
          try simp only [Act.put, rg1, rg2, rg3]
          refine rgt 10 102 rfl rfl hHeld ?_
          try simp only [Act.put, rg1, rg2, rg3]
          refine rgt 11 103 rfl rfl hHeld ?_
          try simp only [Act.put, rg1, rg2, rg3]
          refine rgt 12 104 rfl rfl hHeld ?_
          try simp only [Act.put, rg1, rg2, rg3]
          refine rgt 13 105 rfl rfl hHeld ?_
          try simp only [Act.put, rg1, rg2, rg3]
          refine rgt 14 106 rfl rfl hHeld ?_
          try simp only [Act.put, rg1, rg2, rg3]
          refine rgt 15 107 rfl rfl hHeld ?_
          try simp only [Act.put, rg1, rg2, rg3]
          refine rgt 16 108 rfl rfl hHeld ?_
          try simp only [Act.put, rg1, rg2, rg3]
          refine rgc 17 (some 109) rfl (fun K hK => ?_)
          go_simp
          ((refine (HP.out.2 _).mono ?_); rintro e w7 ⟨rfl, hb7⟩; have y0 := (hb7.cell (p := ⟨gi + 1, q, none⟩) H7.out.2.1.lt).trans e2'; have y1 := (hb7.frozen (p := ⟨gi + 1, q, none⟩) H7.out.2.1.lt).trans f2'; have y2 := (hb7.cell (p := ⟨bb, k * 3 + 1, none⟩) H7.out.2.2.2).trans d1'; have y3 := (hb7.cell (p := ⟨bb, k * 3 + 2, none⟩) H7.out.2.2.2).trans d2')
          refine hK.out _ _ ?ss111 (fun hHeld2 => ?rr111)
          case ss111 => (try dsimp only); exact ⟨hb7.size, y2, y3⟩
          clear hK K
          clear hHeld
          have hHeld := hHeld2
          clear hHeld2
          try simp only [Act.put, rg1, rg2, rg3]
          refine rgt 18 110 rfl rfl hHeld ?_
          try simp only [Act.put, rg1, rg2, rg3]
          refine rgt 19 111 rfl rfl hHeld ?_
          try simp only [Act.put, rg1, rg2, rg3]
          refine rgt 20 112 rfl rfl hHeld ?_
          try simp only [Act.put, rg1, rg2, rg3]
          refine rgc 21 (none) rfl (fun K hK => ?_)
          go_simp
          go_simp
          refine hK.out _ _ ?ss115 (fun hHeld2 => ?rr115)
          case ss115 => (try dsimp only); exact ⟨by first | (rw [World.size_setCell]; exact hHeld.1) | simpa using hHeld.1, (World.cell?_setCell_other _ _ _ _ (by first | exact HNE.out _ _ _ (by first | exact .inl rfl | exact .inr rfl) | exact fun e => HNE.out _ _ _ (by first | exact .inl rfl | exact .inr rfl) e.symm)).trans y2, (World.cell?_setCell_other _ _ _ _ (by first | exact HNE.out _ _ _ (by first | exact .inl rfl | exact .inr rfl) | exact fun e => HNE.out _ _ _ (by first | exact .inl rfl | exact .inr rfl) e.symm)).trans y3⟩
          clear hK K
          clear hHeld
          have hHeld := hHeld2
          clear hHeld2
          try simp only [Act.put, rg1, rg2, rg3]
          refine wpAnyH_done (by kernel_rfl) ?_ _
          obtain ⟨k1, k2, hbr, _⟩ := H7.out
          obtain ⟨W8, hW8⟩ : ∃ X, w7.setCell ⟨gi + 1, q, none⟩ (.bool !x2) = X := ⟨_, rfl⟩
          rw [hW8]
          have gW8 : Below gi W7 W8 := by rw [← hW8]; exact ((bl (Below.refl W7.heap.size W7).drew hb7).mono (by have := k2.lt; omega)).setCell (p := ⟨gi + 1, q, none⟩) (by simp) _
          have aW8 : Blk W8 (gi + 1) 4 (bsV (insL pC (cl.take (k + 1)) N)) := by rw [← hW8, HQ.out.2.1, Bool.false_or, ← bsV_set]; exact Blk.set_ (Blk.below k2 (bl (Below.refl W7.heap.size W7).drew hb7) k2.lt) q (.bool !x2)
          have cW8 : Blk W8 (gi) 4 (bsV (insL pI (cl.take (k + 1)) N)) := by rw [← hW8]; exact Blk.far (Blk.below k1 (bl (Below.refl W7.heap.size W7).drew hb7) k1.lt) (by simp) _
          have H8 := Lib.hid (And.intro cW8 (And.intro aW8 (hbr.trans gW8)))
          clear k1 k2 hbr gW8 aW8 cW8 hW8 d1' d2' e2' f2' hb7 y0 y1 y2 y3
          go_wp2_with fail
          go_roundg (M - (k + 1))
          case measure => omega
          case rel => exact ⟨k + 1, by omega, rfl, by go_num, H8.out.1, H8.out.2.1, H8.out.2.2⟩
        · skip
          refine wp_region_held_drew (S := (fun W' => W7.heap.size ≤ W'.heap.size ∧ W'.cell? ⟨bb, k * 3 + 1, none⟩ = some (.string s.t) ∧ W'.cell? ⟨bb, k * 3 + 2, none⟩ = some (.string s.u))) (by kernel_rfl) ?ss116 (fun hHeld => ?rr116)
          case ss116 => (try dsimp only); exact ⟨Nat.le_refl _, d1', d2'⟩
          refine rgt 0 92 rfl rfl hHeld ?_
          try simp only [Act.put, rg1, rg2, rg3]
          refine rgt 1 93 rfl rfl hHeld ?_
          try simp only [Act.put, rg1, rg2, rg3]
          refine rgt 2 94 rfl rfl hHeld ?_
          try simp only [Act.put, rg1, rg2, rg3]
          refine rgt 3 95 rfl rfl hHeld ?_
          try simp only [Act.put, rg1, rg2, rg3]
          refine rgt 4 96 rfl rfl hHeld ?_
          try simp only [Act.put, rg1, rg2, rg3]
          refine rgc 5 (some 97) rfl (fun K hK => ?_)
          go_simp
          refine hK.out _ _ ?ss122 (fun hHeld2 => ?rr122)
          case ss122 => (try dsimp only); exact hHeld
          clear hK K
          clear hHeld2
          try simp only [Act.put, rg1, rg2, rg3]
          refine rgt 6 98 rfl rfl hHeld ?_
          try simp only [Act.put, rg1, rg2, rg3]
          refine rgn 7 99 rfl rfl hHeld ?_
          try simp only [Act.put, rg1, rg2, rg3]
          refine rgn 8 100 rfl rfl hHeld ?_
          try simp only [Act.put, rg1, rg2, rg3]
          refine rgn 9 101 rfl rfl hHeld ?_
          try simp only [Act.put, rg1, rg2, rg3]
          refine rgn 10 102 rfl rfl hHeld ?_
          try simp only [Act.put, rg1, rg2, rg3]
          refine rgn 11 103 rfl rfl hHeld ?_
          try simp only [Act.put, rg1, rg2, rg3]
          refine rgn 12 104 rfl rfl hHeld ?_
          try simp only [Act.put, rg1, rg2, rg3]
          refine rgn 13 105 rfl rfl hHeld ?_
          try simp only [Act.put, rg1, rg2, rg3]
          refine rgn 14 106 rfl rfl hHeld ?_
          try simp only [Act.put, rg1, rg2, rg3]
          refine rgn 15 107 rfl rfl hHeld ?_
          try simp only [Act.put, rg1, rg2, rg3]
          refine rgn 16 108 rfl rfl hHeld ?_
          try simp only [Act.put, rg1, rg2, rg3]
          refine rgn 17 109 rfl rfl hHeld ?_
          try simp only [Act.put, rg1, rg2, rg3]
          refine rgn 18 110 rfl rfl hHeld ?_
          try simp only [Act.put, rg1, rg2, rg3]
          refine rgt 19 111 rfl rfl hHeld ?_
          try simp only [Act.put, rg1, rg2, rg3]
          refine rgt 20 112 rfl rfl hHeld ?_
          try simp only [Act.put, rg1, rg2, rg3]
          refine rgc 21 (none) rfl (fun K hK => ?_)
          go_simp
          go_simp
          refine hK.out _ _ ?ss138 (fun hHeld2 => ?rr138)
          case ss138 => (try dsimp only); exact ⟨by simp, (World.cell?_setCell_other _ _ _ _ (by first | exact HNE.out _ _ _ (by first | exact .inl rfl | exact .inr rfl) | exact fun e => HNE.out _ _ _ (by first | exact .inl rfl | exact .inr rfl) e.symm)).trans d1', (World.cell?_setCell_other _ _ _ _ (by first | exact HNE.out _ _ _ (by first | exact .inl rfl | exact .inr rfl) | exact fun e => HNE.out _ _ _ (by first | exact .inl rfl | exact .inr rfl) e.symm)).trans d2'⟩
          clear hK K
          clear hHeld
          have hHeld := hHeld2
          clear hHeld2
          try simp only [Act.put, rg1, rg2, rg3]
          refine wpAnyH_done (by kernel_rfl) ?_ _
          obtain ⟨k1, k2, hbr, _⟩ := H7.out
          obtain ⟨W8, hW8⟩ : ∃ X, (W7.setCell ⟨gi + 1, q, none⟩ (.bool true)).drew = X := ⟨_, rfl⟩
          rw [hW8]
          have gW8 : Below gi W7 W8 := by rw [← hW8]; exact below_drewN ((Below.refl gi W7).setCell (p := ⟨gi + 1, q, none⟩) (by simp) _) 1
          have aW8 : Blk W8 (gi + 1) 4 (bsV (insL pC (cl.take (k + 1)) N)) := by rw [← hW8, HQ.out.2.1, Bool.true_or, ← bsV_set]; exact Blk.set_ k2 q (.bool true)
          have cW8 : Blk W8 (gi) 4 (bsV (insL pI (cl.take (k + 1)) N)) := by rw [← hW8]; exact Blk.far k1 (by simp) _
          have H8 := Lib.hid (And.intro cW8 (And.intro aW8 (hbr.trans gW8)))
          clear k1 k2 hbr gW8 aW8 cW8 hW8 d1' d2' e2' f2' 
          go_wp2_with fail
          go_roundg (M - (k + 1))
          case measure => omega
          case rel => exact ⟨k + 1, by omega, rfl, by go_num, H8.out.1, H8.out.2.1, H8.out.2.2⟩
    · obtain rfl : k = M := by omega
      rw [List.take_of_length_le (by rw [H5.out.2.2.1]; exact Nat.le_refl _)] at k1 k2
      obtain ⟨hb35, ho5, hMe, hgi⟩ := H5.out
      obtain ⟨hbx3, hbw3, ho3, hcst, _, _⟩ := H3.out
      have hb3r : Below w3.heap.size w3 wr := by
        have h1 : Below w3.heap.size w3 w6 := bl hb35 H6.out.2.2.1
        exact h1.trans (hbr.mono (by have := hb35.size; omega))
      have ho3r := own_below ho3 hb3r
      have hbWr : Below W.heap.size W wr := bl hbw3 hb3r
      have HF := Lib.hid (And.intro k1 (And.intro k2 (And.intro ho3r (And.intro hbWr hcst))))
      clear k1 k2 hb35 ho5 hMe hgi hbx3 hbw3 ho3 hcst hb3r ho3r hbWr hbr
      go_wp2_with fail
      go_loopg [10] N (fun q i wq => ∃ k : Nat, k ≤ N ∧ q = N - k ∧ i = .int .i64 k ∧ wr = wq)
      case atStart => exact ⟨0, Nat.zero_le _, rfl, rfl, rfl⟩
      case round =>
        obtain ⟨k, hk, rfl, rfl, rfl⟩ := hrel
        by_cases hlt : k < N
        · obtain ⟨k1, k2, ho3r, hbWr, hcst⟩ := HF.out
          have hbz : ∀ b ∈ blL cl, b ≠ 0 := fun b hb => by rcases blL_in hcst b hb with h | h <;> omega
          have hsx := sides_at hbz hlt
          obtain ⟨bs, rfl, _, m1, m2⟩ := sides_cells ho3r hlt hsx
          have e1 : wr.cell? ⟨gi, k, none⟩ = _ := (k1.cell k).trans (bsV_at (insL_at pI _ hlt))
          have e2 : wr.cell? ⟨gi + 1, k, none⟩ = _ := (k2.cell k).trans (bsV_at (insL_at pC _ hlt))
          obtain ⟨a1, a2⟩ := asked hcst hlt
          obtain ⟨p1, hp1⟩ : ∃ p, decide ((k : Int) + 1 ∈ blL cl) = p := ⟨_, rfl⟩
          obtain ⟨p2, hp2⟩ : ∃ p, decide (-((k : Int) + 1) ∈ blL cl) = p := ⟨_, rfl⟩
          obtain ⟨b1, hb1⟩ : ∃ b, (cl.any fun c => decide (c.n = (k : Int) + 1) && pI c) = b := ⟨_, rfl⟩
          obtain ⟨b2, hb2⟩ : ∃ b, (cl.any fun c => decide (c.n = (k : Int) + 1) && pC c) = b := ⟨_, rfl⟩
          simp only [hp1, hp2] at m1 m2
          rw [hb1] at e1
          rw [hb2] at e2
          rw [hp1, hb1] at a1
          rw [hp2, hb2] at a2
          clear hp1 hp2 hb1 hb2 hsx hbz hcst ho3r k1 k2 hbWr
          cases p1
          · cases p2
            · clear a1 a2
              go_wp2_with fail
              go_roundg (N - (k + 1))
              case measure => omega
              case rel => exact ⟨k + 1, by omega, rfl, by go_num, rfl⟩
            · obtain rfl := a2 rfl
              clear a1 a2
              go_wp2_with fail
              go_roundg (N - (k + 1))
              case measure => omega
              case rel => exact ⟨k + 1, by omega, rfl, by go_num, rfl⟩
          · obtain rfl := a1 rfl
            cases p2
            · clear a1 a2
              go_wp2_with fail
              go_roundg (N - (k + 1))
              case measure => omega
              case rel => exact ⟨k + 1, by omega, rfl, by go_num, rfl⟩
            · obtain rfl := a2 rfl
              clear a1 a2
              go_wp2_with fail
              go_roundg (N - (k + 1))
              case measure => omega
              case rel => exact ⟨k + 1, by omega, rfl, by go_num, rfl⟩
        · obtain rfl : k = N := by omega
          go_wp2_with fail
          (refine (HK.out _).mono ?_); rintro e w9 ⟨rfl, hb9⟩
          have HB2 := Lib.hid (bl HF.out.2.2.2.1 hb9)
          clear hb9
          go_wp2_with fail
          go_ret
          exact ⟨rfl, HB2.out⟩
end Go.Proofs.Ytjklecncdinabaa.J
