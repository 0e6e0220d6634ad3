/- Parts of this claim: RtB, RtT, JuD. -/
import Derived.Deep.LoopGhost
import Derived.Deep.Cut
import Derived.Deep.CutRange
import Derived.BigQuiet
import Derived.Test.YtmagljnlfponaaaGreatP05
import Derived.Test.YtmagljnlfponaaaGreatP25
import Derived.Test.YtmagljnlfponaaaGreatP23
import Derived.Test.YtmagljnlfponaaaGreatP24
set_option linter.unusedVariables false
set_option linter.unusedSimpArgs false
/- RtB -/
namespace Go.Proofs.YtmagljnlfponaaaGreat.R
open Go.RowKit Go.Proofs.YtmagljnlfponaaaGreat.B Go.Proofs.YtmagljnlfponaaaGreat.T Go.Proofs.YtmagljnlfponaaaGreat.K
set_option linter.unusedVariables false
set_option linter.unusedSimpArgs false

/-- Behind shape: where it stands, or the error. -/
def ShapeRQ (R : Rs (List Tn × Nat)) (wb : Nat) (A : Option Addr) (N c : Nat) (al : Value) (w : World) (e : Ending) (w' : World) : Prop := e = .returned (.tuple #[]) ∧ Bt wb w w' ∧ match R with
  | .ok p => Wk w' wb A N c p.2 0 0 al
  | .bad E x => ∃ a', Wk w' wb A N c a' E x al
theorem ShapeRQ.bad {E : Int} {x : Nat} {wb : Nat} {A : Option Addr} {N c : Nat} {al : Value} {w w' : World} {a' : Int} (h : Bt wb w w') (h2 : Wk w' wb A N c a' E x al) : ShapeRQ (.bad E x) wb A N c al w (.returned (.tuple #[])) w' := ⟨rfl, h, a', h2⟩

section
variable (L : List Tn) (A : Option Addr) (c : Nat) (al : Value) (wb : Nat)
set_option maxRecDepth 100000 in
theorem shapeR_end (q : Int) (w : World) (hc : Wk w wb A L.length c L.length 0 0 al) :
    Calls Tryz.prog 59 #[.pointer (some ⟨wb, 0, none⟩), .int .i64 q] w fun e w' => ShapeRQ (.bad 18 L.length) wb A L.length c al w e w' := by
  obtain ⟨c0, c1, _⟩ := hc.cells
  have hf := fail_new 18 (L.length : Nat) wb A L.length c L.length 0 al w hc
  have HF := Lib.hid hf
  clear hc hf
  go_enter Tryz.func59, Tryz.ntmps59
  go_wp2_with fail
  (refine HF.out.mono ?_); rintro e w' ⟨rfl, h1, h2⟩
  have H := Lib.hid (And.intro h1 h2)
  clear h1 h2
  go_wp2_with fail
  refine bodyPost_ret (results_none rfl _ _ _) rfl ?_
  exact ShapeRQ.bad H.out.1 H.out.2
end

set_option maxRecDepth 100000 in
set_option maxHeartbeats 4000000 in
theorem shapeR_node (L : List Tn) (A : Option Addr) (c : Nat) (al : Value) (wb : Nat) (a q : Nat) (n : Tn) (d : Nat) (w : World) (hn : L[a]? = some n) (hc : Wk w wb A L.length c a 0 0 al) (hL : LT w wb A L) (hN : L.length ≤ 1000000) (hLc : L.length ≤ c) (hq : q + d = 1025)
    (ih : ∀ d', d = d' + 1 → ∀ a' w, a' ≤ L.length → Wk w wb A L.length c a' 0 0 al → LT w wb A L → Calls Tryz.prog 59 #[.pointer (some ⟨wb, 0, none⟩), .int .i64 (q + 1 : Nat)] w fun e w' => ShapeRQ (shq d' (L.drop a') a') wb A L.length c al w e w') :
    Calls Tryz.prog 59 #[.pointer (some ⟨wb, 0, none⟩), .int .i64 (q : Nat)] w fun e w' => ShapeRQ (shq d (n :: L.drop (a + 1)) a) wb A L.length c al w e w' := by
  obtain ⟨c0, c1, c2, c3, c4⟩ := hc.cells
  have hcl : wb < w.heap.size := hc.lt
  have hal : a < L.length := (List.getElem?_eq_some_iff.1 hn).1
  obtain ⟨b, o, rfl, hbc, hbl, q0, q1, q2, q3, q4, q5, q6, q7⟩ := hL.node hn
  obtain ⟨kd, kids, nn, s, t, u, ln, cl⟩ := n
  simp only at q0 q1 q2 q3 q4 q5 q6 q7
  have hkr := fun W => kidsR_any kd W
  have hgi := goodN_iff (n := ⟨kd, kids, nn, s, t, u, ln, cl⟩)
  simp only at hgi
  have hge : -2 ≤ arK kd := by unfold arK; repeat' split
                               all_goals omega
  obtain ⟨R, hR⟩ : ∃ R, shq d ((⟨kd, kids, nn, s, t, u, ln, cl⟩ : Tn) :: L.drop (a + 1)) a = R := ⟨_, rfl⟩
  rw [hR]
  have hR0 : d = 0 → goodN ⟨kd, kids, nn, s, t, u, ln, cl⟩ = true → R = .bad 16 a := fun h0 hg => by subst h0; rw [← hR]; simp only [shq]; rw [if_pos hg]
  have hRb : ¬ goodN ⟨kd, kids, nn, s, t, u, ln, cl⟩ = true → R = .bad 18 a := fun hg => by rw [← hR]; cases d <;> (simp only [shq]; rw [if_neg hg])
  have hRd : ∀ d', d = d' + 1 → goodN ⟨kd, kids, nn, s, t, u, ln, cl⟩ = true → R = loopQ (shq d') kids.toNat (L.drop (a + 1)) (a + 1) := fun d' hd hg => by subst hd; rw [← hR]; simp only [shq]; rw [if_pos hg]
  rw [hgi] at hR0 hRb
  simp only [hgi] at hRd
  obtain ⟨ak, hak⟩ : ∃ x, arK kd = x := ⟨_, rfl⟩
  rw [hak] at hkr hge hR0 hRb
  simp only [hak] at hRd
  obtain ⟨N, hNe⟩ : ∃ N, L.length = N := ⟨_, rfl⟩
  rw [hNe] at c0 hal hN hLc hc ih ⊢
  have h1 : decide ((N : Int) ≤ (a : Int)) = false := by simp; omega
  have HIH := Lib.hid ih
  have HR := Lib.hid (And.intro hR0 (And.intro hRb hRd))
  have HKR := Lib.hid hkr
  have HW := Lib.hid (And.intro hc (And.intro hL (And.intro hcl hNe)))
  clear hc hL hR hR0 hRb hRd ih hn hNe hkr hgi hak
  go_enter Tryz.func59, Tryz.ntmps59
  go_upto_region 4 with fail
  obtain ⟨W1, hW1⟩ : ∃ W1, w.alloc (.cells #[.int .i8 kd, .int .i64 kids, .int .i64 nn, .string s, .string t, .string u, .int .i64 ln, .int .i64 cl] 60) = W1 := ⟨_, rfl⟩
  obtain ⟨hc, hL, hcl', hNe⟩ := HW.out
  have hb1 : Blk W1 w.heap.size 60 #[.int .i8 kd, .int .i64 kids, .int .i64 nn, .string s, .string t, .string u, .int .i64 ln, .int .i64 cl] := by rw [← hW1]; exact Blk.new _ _ _
  have hc1 : Wk W1 wb (some ⟨b, o, none⟩) N c a 0 0 al := by rw [← hW1]; exact Blk.alloc hc _
  have hbt1 : Bt wb w W1 := by rw [← hW1]; exact Bt.alloc (But.refl _ _) _
  have hL1 : LT W1 wb (some ⟨b, o, none⟩) L := hL.bt hbt1
  rw [hW1]
  obtain ⟨p0, p1, p2, p3, p4⟩ := hc1.cells
  have n0 := (hb1.cell 0).trans rfl
  have n1 := (hb1.cell 1).trans rfl
  have hf1 := hc1.frozen 1
  have hfl := fun E => fail_new E (a : Nat) wb (some ⟨b, o, none⟩) N c a 0 al W1 hc1
  have HFL := Lib.hid hfl
  have HW1 := Lib.hid (And.intro hc1 (And.intro hb1 (And.intro hL (And.intro hNe hbt1))))
  clear hc hc1 hb1 hL hcl' hNe hbt1 hL1 hW1 c0 c1 c2 c3 c4 q0 q1 q2 q3 q4 q5 q6 q7 HW hfl
  go_wp2_with fail
  (refine (HKR.out _).mono ?_); rintro e w' ⟨rfl, rfl⟩
  by_cases hk2 : ak = -2
  · subst hk2
    have hRb := HR.out.2.1 (fun h => h.1 rfl)
    subst hRb
    go_wp2_with fail
    (refine (HFL.out 18).mono ?_); rintro e w' ⟨rfl, h1, h2⟩
    have H := Lib.hid (And.intro h1 h2)
    clear h1 h2
    go_wp2_with fail
    refine bodyPost_ret (results_none rfl _ _ _) rfl ?_
    exact ShapeRQ.bad (HW1.out.2.2.2.2.trans H.out.1) H.out.2
  have e2 : (ak == -2) = false := by simpa using hk2
  by_cases hk3 : 0 ≤ ak ∧ kids ≠ ak
  · have hRb := HR.out.2.1 (fun h => by omega)
    subst hRb
    have e3 : decide (0 ≤ ak) = true := by simpa using hk3.1
    have e4 : (kids != ak) = true := by simpa using hk3.2
    clear hk2 hk3 hge
    go_wp2_with fail
    (refine (HFL.out 18).mono ?_); rintro e w' ⟨rfl, h1, h2⟩
    have H := Lib.hid (And.intro h1 h2)
    clear h1 h2
    go_wp2_with fail
    refine bodyPost_ret (results_none rfl _ _ _) rfl ?_
    exact ShapeRQ.bad (HW1.out.2.2.2.2.trans H.out.1) H.out.2
  by_cases hk4 : kids < 0
  · have hRb := HR.out.2.1 (fun h => by omega)
    subst hRb
    have e3 : decide (0 ≤ ak) = false := by simp; omega
    have e4 : decide (kids < 0) = true := by simpa using hk4
    clear hk2 hk3 hk4 hge
    go_wp2_with fail
    (refine (HFL.out 18).mono ?_); rintro e w' ⟨rfl, h1, h2⟩
    have H := Lib.hid (And.intro h1 h2)
    clear h1 h2
    go_wp2_with fail
    refine bodyPost_ret (results_none rfl _ _ _) rfl ?_
    exact ShapeRQ.bad (HW1.out.2.2.2.2.trans H.out.1) H.out.2
  have e4 : decide (kids < 0) = false := by simpa using hk4
  have hg : ak ≠ -2 ∧ 0 ≤ kids ∧ (ak = -1 ∨ ak = kids) := by omega
  have HG := Lib.hid (And.intro hg (And.intro hk3 hge))
  clear hk2 hk3 hk4 hge hg
  go_upto_region 5 with fail
  go_cut [52] from 36 to 52 (fun i wx => i = .bool false ∧ wx = W1)
  case first =>
    obtain ⟨hg, hk3, hge⟩ := HG.out
    by_cases h0 : 0 ≤ ak
    · have e3 : decide (0 ≤ ak) = true := by simpa using h0
      have e5 : (kids != ak) = false := by simp; omega
      clear hg hk3 hge h0
      go_wp2_with fail
      go_meet
      case rel => exact ⟨rfl, rfl⟩
    · have e3 : decide (0 ≤ ak) = false := by simpa using h0
      clear hg hk3 hge h0
      go_wp2_with fail
      go_meet
      case rel => exact ⟨rfl, rfl⟩
  case rest =>
    obtain ⟨rfl, rfl⟩ := hcut
    cases d with
    | zero =>
      have hRb := HR.out.1 rfl HG.out.1
      subst hRb
      obtain rfl : q = 1025 := by omega
      go_wp2_with fail
      (refine (HFL.out 16).mono ?_); rintro e w' ⟨rfl, h1, h2⟩
      have H := Lib.hid (And.intro h1 h2)
      clear h1 h2
      go_wp2_with fail
      refine bodyPost_ret (results_none rfl _ _ _) rfl ?_
      exact ShapeRQ.bad (HW1.out.2.2.2.2.trans H.out.1) H.out.2
    | succ d =>
      have hRd := HR.out.2.2 d rfl HG.out.1
      have HRD := Lib.hid hRd
      have hqd : decide ((1024 : Int) < (q : Int)) = false := by simp; omega
      obtain ⟨K, hK⟩ : ∃ K : Nat, kids = K := ⟨kids.toNat, by have := HG.out.1; omega⟩
      subst hK
      rw [Int.toNat_natCast] at HRD
      clear hRd HR HFL HKR HG e2 e4
      go_wp2_with fail
      obtain ⟨hc1, hb1, hL, hNe, hbt1⟩ := HW1.out
      obtain ⟨W2, hW2⟩ : ∃ W2, wc.setCell ⟨wb, 1, none⟩ (.int .i64 ((a : Int) + 1)) = W2 := ⟨_, rfl⟩
      rw [hW2]
      have hc2 : Wk W2 wb (some ⟨b, o, none⟩) N c ((a : Int) + 1) 0 0 al := by rw [← hW2]; exact hc1.at_ _
      have hb2 : Blk W2 w.heap.size 60 #[.int .i8 kd, .int .i64 K, .int .i64 nn, .string s, .string t, .string u, .int .i64 ln, .int .i64 cl] := by rw [← hW2]; exact hb1.far (p := ⟨wb, 1, none⟩) (show w.heap.size ≠ wb by omega) _
      have hbt2 : Bt wb w W2 := by rw [← hW2]; exact hbt1.set_ 1 _
      have HW2 := Lib.hid (And.intro hc2 (And.intro hb2 (And.intro hbt2 (And.intro hL hNe))))
      clear hW2 hc1 hb1 hL hNe hbt1 p0 p1 p2 p3 p4 n0 n1 hf1 HW1 hc2 hb2 hbt2
      go_wp2_with fail
      go_loopg [7] K (fun g u wr => ∃ (m : Nat) (a' e nd : Int), m ≤ K ∧ g = K - m ∧ u = .int .i64 m ∧ Bt wb W2 wr ∧ Wk wr wb (some ⟨b, o, none⟩) N c a' e nd al ∧
          Hid ((e = 0 ∧ nd = 0 ∧ ∃ a2 : Nat, a' = a2 ∧ a2 ≤ N ∧ m ≤ a2 ∧ loopQ (shq d) (K - m) (L.drop a2) a2 = R) ∨ (e ≠ 0 ∧ ∃ x : Nat, nd = x ∧ R = .bad e x)))
      case atStart => exact ⟨0, _, 0, 0, by omega, rfl, rfl, But.refl _ _, HW2.out.1, Lib.hid (.inl ⟨rfl, rfl, a + 1, by omega, by omega, by omega, by rw [HRD.out]; rfl⟩)⟩
      case round =>
        obtain ⟨m, a', e, nd, hm, rfl, rfl, hbt, hck, hd⟩ := hrel
        have hbx := hbt.blk HW2.out.2.1 (show w.heap.size ≠ wb by omega)
        have n1 : wr.cell? ⟨w.heap.size, 1, none⟩ = some (.int .i64 (K : Int)) := (hbx.cell 1).trans rfl
        have p2 := hck.cells.2.2.1
        have HC := Lib.hid (And.intro hbt hck)
        rcases hd.out with ⟨rfl, rfl, a2, rfl, ha2, hma, hq2⟩ | ⟨he, x, rfl, hRx⟩
        · by_cases hlt : m < K
          · have hcall := HIH.out d rfl a2 wr ha2 hck ((HW2.out.2.2.2.1.bt HW2.out.2.2.1).bt hbt)
            obtain ⟨mm, hmm⟩ : ∃ mm, K - m = mm + 1 := ⟨K - m - 1, by omega⟩
            rw [hmm] at hq2
            simp only [loopQ] at hq2
            obtain ⟨RR, hRR⟩ : ∃ RR, shq d (L.drop a2) a2 = RR := ⟨_, rfl⟩
            rw [hRR] at hcall hq2
            rw [show ((q + 1 : Nat) : Int) = (q : Int) + 1 by omega] at hcall
            have HQ := Lib.hid (And.intro hq2 (And.intro hRR (And.intro ha2 hma)))
            have HCALL := Lib.hid hcall
            clear hq2 hRR ha2 hma hcall hbt hck hd hbx
            go_wp2_with fail
            (refine HCALL.out.mono ?_); rintro en w3 ⟨rfl, hb3, hq4⟩
            obtain ⟨hq2, hRR, ha2, hma⟩ := HQ.out
            cases RR with
            | bad E x =>
              obtain ⟨a3, hck3⟩ := hq4
              simp only at hq2
              have hE := J.shq_bad _ _ _ _ _ hRR
              have HF := Lib.hid (And.intro (HC.out.1.trans hb3) (And.intro hck3 (And.intro hE hq2.symm)))
              clear hq2 hRR hb3 hck3 hE HQ n1 p2
              go_wp2_with fail
              go_roundg (K - (m + 1))
              case measure => omega
              case rel => exact ⟨m + 1, a3, E, x, by omega, rfl, by go_num, HF.out.1, HF.out.2.1, Lib.hid (.inr ⟨HF.out.2.2.1, x, rfl, HF.out.2.2.2⟩)⟩
            | ok p =>
              obtain ⟨l', a3⟩ := p
              simp only at hq2 hq4
              obtain ⟨rfl, ha3, ha4⟩ := shq_rest (by rw [HW2.out.2.2.2.2]; exact ha2) hRR
              rw [HW2.out.2.2.2.2] at ha3
              have HF := Lib.hid (And.intro (HC.out.1.trans hb3) (And.intro hq4 hq2))
              clear hq2 hRR hb3 hq4 HQ n1 p2
              go_wp2_with fail
              go_roundg (K - (m + 1))
              case measure => omega
              case rel => exact ⟨m + 1, a3, 0, 0, by omega, rfl, by go_num, HF.out.1, HF.out.2.1, Lib.hid (.inl ⟨rfl, rfl, a3, rfl, ha3, by omega, by rw [show K - (m + 1) = mm by omega]; exact HF.out.2.2⟩)⟩
          · obtain rfl : m = K := by omega
            rw [Nat.sub_self] at hq2
            simp only [loopQ] at hq2
            subst hq2
            clear hbt hck hd hbx
            go_wp2_with fail
            go_end0
            exact ⟨rfl, HW2.out.2.2.1.trans HC.out.1, HC.out.2⟩
        · subst hRx
          have e1 : (e == 0) = false := by simpa using he
          clear hbt hck hd hbx he
          by_cases hlt : m < K
          · go_wp2_with fail
            go_end0
            exact ⟨rfl, HW2.out.2.2.1.trans HC.out.1, _, HC.out.2⟩
          · obtain rfl : m = K := by omega
            go_wp2_with fail
            go_end0
            exact ⟨rfl, HW2.out.2.2.1.trans HC.out.1, _, HC.out.2⟩

theorem shapeR_any (L : List Tn) (A : Option Addr) (c : Nat) (al : Value) (wb : Nat) (hN : L.length ≤ 1000000) (hLc : L.length ≤ c) : ∀ (d q a : Nat) (w : World), q + d = 1025 → a ≤ L.length → Wk w wb A L.length c a 0 0 al → LT w wb A L →
    Calls Tryz.prog 59 #[.pointer (some ⟨wb, 0, none⟩), .int .i64 (q : Nat)] w fun e w' => ShapeRQ (shq d (L.drop a) a) wb A L.length c al w e w' := by
  intro d
  induction d with
  | zero =>
    intro q a w hq ha hc hL
    by_cases hal : a < L.length
    · obtain ⟨n, hn⟩ : ∃ n, L[a]? = some n := ⟨_, List.getElem?_eq_getElem hal⟩
      rw [List.drop_eq_getElem_cons hal, show L[a] = n by rw [List.getElem?_eq_getElem hal] at hn; exact Option.some.inj hn]
      exact shapeR_node L A c al wb a q n 0 w hn hc hL hN hLc hq (fun d' hd => by omega)
    · obtain rfl : a = L.length := by omega
      rw [List.drop_length]
      have h := shapeR_end L A c al wb q w hc
      simpa only [shq] using h
  | succ d ih =>
    intro q a w hq ha hc hL
    by_cases hal : a < L.length
    · obtain ⟨n, hn⟩ : ∃ n, L[a]? = some n := ⟨_, List.getElem?_eq_getElem hal⟩
      rw [List.drop_eq_getElem_cons hal, show L[a] = n by rw [List.getElem?_eq_getElem hal] at hn; exact Option.some.inj hn]
      refine shapeR_node L A c al wb a q n (d + 1) w hn hc hL hN hLc hq (fun d' hd a' w' ha' hc' hL' => ?_)
      obtain rfl : d = d' := by omega
      exact ih (q + 1) a' w' (by omega) ha' hc' hL'
    · obtain rfl : a = L.length := by omega
      rw [List.drop_length]
      have h := shapeR_end L A c al wb q w hc
      simpa only [shq] using h
end Go.Proofs.YtmagljnlfponaaaGreat.R

/- RtT -/
namespace Go.Proofs.YtmagljnlfponaaaGreat.R
open Go.RowKit Go.Proofs.YtmagljnlfponaaaGreat.B Go.Proofs.YtmagljnlfponaaaGreat.T Go.Proofs.YtmagljnlfponaaaGreat.K
set_option linter.unusedVariables false
set_option linter.unusedSimpArgs false

noncomputable def shpR (L : List Tn) : Rs Unit := if 16384 < L.length then .bad 17 0 else (shq 1024 L 0).then fun p => if p.2 = L.length then .ok () else .bad 18 p.2
def shpV {α : Type} : Rs α → Value
  | .ok _ => .tuple #[.int .i64 0, .int .i64 0]
  | .bad E x => .tuple #[.int .i64 E, .int .i64 (x : Int)]
theorem Wk.drewN {w : World} {wb : Nat} {A : Option Addr} {N c : Nat} {a e nd : Int} {al : Value} (h : Wk w wb A N c a e nd al) (n : Nat) : Wk (w.drewN n) wb A N c a e nd al := h
set_option maxRecDepth 100000 in
set_option maxHeartbeats 4000000 in
theorem ShapeR_any (L : List Tn) (A : Option Addr) (c : Nat) (w : World) (hN : L.length ≤ 1000000) (hLc : L.length ≤ c) (hL : LT w w.heap.size A L) :
    Calls Tryz.prog 48 #[.slice A L.length c] w fun e w' => e = .returned (shpV (shpR L)) ∧ Below w.heap.size w w' := by
  by_cases hl : 16384 < L.length
  · have hR : shpR L = .bad 17 0 := by unfold shpR; rw [if_pos hl]
    rw [hR]
    have h1 : decide ((16384 : Int) < (L.length : Int)) = true := by simp; omega
    unfold shpV
    clear hL hLc hl hR
    generalize L.length = N at *
    go_enter Tryz.func48, Tryz.ntmps48
    go_wp2_with fail
    go_ret2
    exact ⟨rfl, Below.refl _ _⟩
  obtain ⟨W1, hW1⟩ : ∃ W1, w.alloc (.cells #[.slice A L.length c, .int .i64 0, .int .i64 0, .int .i64 0, .slice none 0 0] 108) = W1 := ⟨_, rfl⟩
  have hck : Wk W1 w.heap.size A L.length c (0 : Nat) 0 0 (.slice none 0 0) := by rw [← hW1]; exact Blk.new _ _ _
  have hL1 : LT W1 w.heap.size A L := by rw [← hW1]; exact hL.bt (Bt.alloc (But.refl _ _) _)
  have hb1 : Below w.heap.size w W1 := by rw [← hW1]; exact (Below.refl _ _).alloc (Nat.le_refl _) _
  have hcall := shapeR_any L A c (.slice none 0 0) w.heap.size hN hLc 1024 1 0 W1 (by omega) (by omega) hck hL1
  rw [List.drop_zero] at hcall
  obtain ⟨R, hR⟩ : ∃ R, shq 1024 L 0 = R := ⟨_, rfl⟩
  have hRR : shpR L = R.then fun p => if p.2 = L.length then .ok () else .bad 18 p.2 := by unfold shpR; rw [if_neg hl, hR]
  have hat : ∀ p, R = .ok p → p.2 ≤ L.length := fun p h => shq_at (hR.trans h)
  have hbad : ∀ E x, R = .bad E x → E ≠ 0 := fun E x h => J.shq_bad _ _ _ _ _ (hR.trans h)
  rw [hR] at hcall
  rw [hRR]
  have h1 : decide ((16384 : Int) < (L.length : Int)) = false := by simp; omega
  obtain ⟨N, hNe⟩ : ∃ N, L.length = N := ⟨_, rfl⟩
  rw [hNe] at hcall h1 hat hN ⊢
  rw [hNe] at hW1
  have HC := Lib.hid hcall
  have HW := Lib.hid hW1
  have HB := Lib.hid (And.intro hb1 (And.intro hat hbad))
  clear hL hLc hl hck hL1 hb1 hcall hR hRR hat hbad hNe hW1
  go_enter Tryz.func48, Tryz.ntmps48
  go_wp2_with fail
  rw [HW.out]
  (refine HC.out.mono ?_); rintro e w2 ⟨rfl, hb2, hq2⟩
  have hb02 : Below w.heap.size w w2 := HB.out.1.trans (But.below hb2 HB.out.1.size (by intro k hk; omega))
  cases R with
  | bad E x =>
    obtain ⟨a', hw2⟩ := hq2
    have hE := HB.out.2.2 E x rfl
    have e1 : (E == 0) = false := by simpa using hE
    obtain ⟨p0, p1, p2, p3, p4⟩ := hw2.cells
    have H := Lib.hid hb02
    clear hb2 hb02 hw2 hE HW HC HB
    go_wp2_with fail
    go_quiet (fail)
    go_wp2_with fail
    go_ret2
    exact ⟨rfl, below_drewN H.out _⟩
  | ok p =>
    have hat := HB.out.2.1 p rfl
    by_cases hp : p.2 = N
    · have HP := Lib.hid hp
      simp only at hq2
      obtain ⟨p0, p1, p2, p3, p4⟩ := hq2.cells
      have e1 : decide (p.2 < N) = false := by simp; omega
      have H := Lib.hid hb02
      obtain ⟨q, hq⟩ : ∃ q, p.2 = q := ⟨_, rfl⟩
      rw [hq] at p1 e1
      have HQ := Lib.hid hq
      clear hb2 hb02 hq2 hp hat hq HW HC HB
      go_wp2_with fail
      go_quiet (fail)
      go_wp2_with fail
      go_ret2
      exact ⟨by simp only [Rs.then]; rw [if_pos HP.out]; rfl, below_drewN H.out _⟩
    · have HP := Lib.hid hp
      simp only at hq2
      obtain ⟨p0, p1, p2, p3, p4⟩ := hq2.cells
      have e1 : decide (p.2 < N) = true := by simp; omega
      have hf := fail_new 18 (p.2 : Nat) w.heap.size A N c p.2 0 _ w2 hq2
      have HF := Lib.hid hf
      have H := Lib.hid hb02
      obtain ⟨q, hq⟩ : ∃ q, p.2 = q := ⟨_, rfl⟩
      rw [hq] at p1 e1 HF
      have HQ := Lib.hid hq
      clear hb2 hb02 hq2 hp hat hf hq HW HC HB
      go_wp2_with fail
      (refine HF.out.mono ?_); rintro e w3 ⟨rfl, hb3, hk3⟩
      have hb03 := H.out.trans (But.below hb3 H.out.size (by intro k hk; omega))
      have H3 := Lib.hid hb03
      clear p0 p1 p2 p3 p4
      obtain ⟨p0, p1, p2, p3, p4⟩ := hk3.cells
      clear hb3 hb03 hk3 HF H
      go_wp2_with fail
      go_quiet (fail)
      go_wp2_with fail
      go_ret2
      exact ⟨by simp only [Rs.then]; rw [if_neg HP.out, HQ.out]; rfl, below_drewN H3.out _⟩
end Go.Proofs.YtmagljnlfponaaaGreat.R

/- JuD -/
namespace Go.Proofs.YtmagljnlfponaaaGreat.J
open Go.RowKit Go.Proofs.YtmagljnlfponaaaGreat.B Go.Proofs.YtmagljnlfponaaaGreat.T Go.Proofs.YtmagljnlfponaaaGreat.K
set_option linter.unusedVariables false
set_option linter.unusedSimpArgs false

/-- A cast's cells, in a list of what was laid. -/
def ldV (n : Tn) : List Value := [.int .i64 n.n, .string n.t, .string n.u]
def lds (l : List Tn) : List Value := l.flatMap ldV
theorem lds_len (l : List Tn) : (lds l).length = l.length * 3 := by
  induction l with
  | nil => rfl
  | cons s l ih => simp only [lds, List.flatMap_cons, List.length_append, List.length_cons] at *; rw [ih]; simp [ldV]; omega
theorem lds_at (l : List Tn) : ∀ (k : Nat) (s : Tn) (j : Nat), l[k]? = some s → j < 3 → (lds l)[k * 3 + j]? = (ldV s)[j]? := by
  induction l with
  | nil => intro k s j h; simp at h
  | cons x l ih =>
    intro k s j h hj
    have hl : (ldV x).length = 3 := rfl
    cases k with
    | zero =>
      simp at h; subst h
      simp only [lds, List.flatMap_cons]
      rw [List.getElem?_append_left (by omega)]; simp
    | succ k =>
      simp at h
      simp only [lds, List.flatMap_cons]
      rw [List.getElem?_append_right (by omega)]
      have := ih k s j h hj
      simp only [lds] at this
      rw [show (k + 1) * 3 + j - (ldV x).length = k * 3 + j by omega]; exact this
theorem laid_next {L : List Tn} {k : Nat} {s : Tn} (h : L[k]? = some s) : laidL (L.take (k + 1)) = laidL (L.take k) ++ (if s.kd = 30 then [s] else []) := by
  unfold laidL
  rw [List.take_add_one, h, Option.toList_some, List.filter_append]
  congr 1
  by_cases hk : s.kd = 30 <;> simp [hk]
theorem laid_le (L : List Tn) (k : Nat) : (laidL (L.take k)).length ≤ k := by
  unfold laidL
  have h1 := List.length_filter_le (fun n : Tn => n.kd == 30) (L.take k)
  have h2 := List.length_take_le k L
  omega
theorem one_oneK (w : World) (vs : List Value) (T : TypeId) : Sl (w.alloc (.cells vs.toArray T)) (w.heap.size + 1) vs.length (some ⟨w.heap.size, 0, none⟩) 1 vs := by
  refine ⟨by simp, .inr ⟨w.heap.size, 0, rfl, by omega, fun j u hu => ?_⟩⟩
  simpa using hu
theorem info_ld : (Tryz.prog.info? 92).map (fun i => (i.zero, i.size, i.bytes)) = some (some (.agg #[.int .i64 0, .string ⟨#[]⟩, .string ⟨#[]⟩]), 3, 40) := by kernel_rfl
theorem info_partsJ {P : Program} {e : TypeId} {z : Value} {sz by_ : Nat} (h : (P.info? e).map (fun i => (i.zero, i.size, i.bytes)) = some (some z, sz, by_)) : ∃ i, P.info? e = some i ∧ i.zero = some z ∧ i.size = sz ∧ i.bytes = by_ := by
  obtain ⟨i, hi, h⟩ := Option.map_eq_some_iff.1 h
  simp only [Prod.mk.injEq] at h
  exact ⟨i, hi, h.1, h.2.1, h.2.2⟩

/-- What Casts answers. -/
def CastsQ (R : Rs Ty) (L : List Tn) (w : World) (e : Ending) (w' : World) : Prop := Below w.heap.size w w' ∧ match R with
  | .ok _ => ∃ v, e = .returned (.tuple #[v, .int .i64 0]) ∧ w'.ownsRow w.heap.size 92 3 v (laidL L).length (lds (laidL L))
  | .bad E _ => e = .returned (.tuple #[.slice none 0 0, .int .i64 E])

set_option maxRecDepth 100000 in
set_option maxHeartbeats 2000000 in
theorem Casts_any (L : List Tn) (A : Option Addr) (c : Nat) (w : World) (hN : L.length ≤ 1000000) (hLc : L.length ≤ c) (hS : ∀ x ∈ L, x.small) (hL : LT w w.heap.size A L) :
    Calls Tryz.prog 39 #[.slice A L.length c] w fun e w' => CastsQ (chk L) L w e w' := by
  have hC := fun W (hW : LT W W.heap.size A L) => Check_any L A c W hN hLc hS hW
  have HA := Lib.hid (show ∀ W, Below w.heap.size w W → LT W W.heap.size A L from fun W hb => (hL.below hb).fresh (Nat.le_refl _))
  obtain ⟨i0, hi0, hz0, hz1, hz2⟩ := info_partsJ info_ld
  have hC0 := hC w hL
  have hnz : ∀ E x, chk L = .bad E x → E ≠ 0 := fun E x h => chk_bad h
  clear hC hS hL hLc
  generalize chk L = R at *
  unfold CastsQ
  cases R with
  | bad E x =>
    have hE := hnz E x rfl
    have hE2 : (E != 0) = true := by simpa using hE
    clear hnz hE HA
    unfold chkV at hC0
    go_enter Tryz.func39, Tryz.ntmps39
    go_wp2_with fail
    (refine hC0.mono ?_); rintro e w1 ⟨rfl, hb⟩
    go_wp2_with fail
    go_ret2
    exact ⟨hb, rfl⟩
  | ok t =>
    clear hnz
    unfold chkV at hC0
    have HC := Lib.hid hC0
    clear hC0
    go_enter Tryz.func39, Tryz.ntmps39
    go_wp2_with fail
    (refine HC.out.mono ?_); rintro e w1 ⟨rfl, hb1⟩
    go_wp2_with fail
    have HB1 := Lib.hid hb1
    clear hb1 HC
    go_loopg [7, 21] L.length (fun q v i wr => ∃ k : Nat, k ≤ L.length ∧ q = L.length - k ∧ i = .int .i64 k ∧ wr.ownsRow w.heap.size 92 3 v (laidL (L.take k)).length (lds (laidL (L.take k))) ∧ Below w.heap.size w wr)
    case atStart => exact ⟨0, by omega, rfl, rfl, World.ownsRow_nil _ _ _ _, HB1.out⟩
    case round =>
      obtain ⟨k, hk, rfl, rfl, ho, hb⟩ := hrel
      obtain ⟨Av, cv, rfl, hv1, hv2⟩ := own_shape ho
      by_cases hlt : k < L.length
      · obtain ⟨s, hs⟩ : ∃ s, L[k]? = some s := ⟨_, List.getElem?_eq_getElem hlt⟩
        obtain ⟨bb, o, rfl, hbn, hbb, c0, c1, c2, c3, c4, c5, c6, c7⟩ := (HA.out _ hb).node hs
        have hM := laid_le L k
        have HN := Lib.hid (laid_next hs)
        obtain ⟨M, hMM⟩ : ∃ M, (laidL (L.take k)).length = M := ⟨_, rfl⟩
        obtain ⟨xs, hxs⟩ : ∃ xs, laidL (L.take k) = xs := ⟨_, rfl⟩
        rw [hxs] at hMM HN
        have HM := Lib.hid hMM
        rw [hxs, hMM] at ho
        rw [hxs, hMM] at hv1 hM ⊢
        have HO := Lib.hid ho
        clear ho hs hMM hxs hbn
        by_cases hkd : s.kd = 30
        · have e1 : (s.kd == 30) = true := by simpa using hkd
          have HKD := Lib.hid hkd
          clear hkd
          have hl0 : ((wr.alloc (.cells #[.int .i8 s.kd, .int .i64 s.kids, .int .i64 s.n, .string s.s, .string s.t, .string s.u, .int .i64 s.ln, .int .i64 s.cl] 60)).alloc (.cells #[Value.int .i64 s.n, .string s.t, .string s.u] 92)).ownsRow w.heap.size 92 3 (.slice Av M cv) M (lds xs) :=
            World.ownsRow.alloc (World.ownsRow.alloc HO.out _) _
          have s1 : ∀ u ∈ [Value.int .i64 s.n, .string s.t, .string s.u], u.oneCell' = true := by
            intro u hu; simp at hu; rcases hu with rfl | rfl | rfl <;> rfl
          have s2 : M + 1 ≤ maxLen := by unfold maxLen; omega
          have s3 : (M + 1) * 40 ≤ 140737488355328 := by omega
          have s4 : w.heap.size ≤ ((wr.alloc (.cells #[.int .i8 s.kd, .int .i64 s.kids, .int .i64 s.n, .string s.s, .string s.t, .string s.u, .int .i64 s.ln, .int .i64 s.cl] 60)).alloc (.cells #[Value.int .i64 s.n, .string s.t, .string s.u] 92)).heap.size := by have := hb.size; simp; omega
          have s5 := one_oneK (wr.alloc (.cells #[.int .i8 s.kd, .int .i64 s.kids, .int .i64 s.n, .string s.s, .string s.t, .string s.u, .int .i64 s.ln, .int .i64 s.cl] 60)) ([Value.int .i64 s.n, .string s.t, .string s.u]) 92
          have e5 : (wr.alloc (.cells #[.int .i8 s.kd, .int .i64 s.kids, .int .i64 s.n, .string s.s, .string s.t, .string s.u, .int .i64 s.ln, .int .i64 s.cl] 60)).heap.size = wr.heap.size + 1 := by simp
          rw [e5] at s5
          have S1 := Lib.hid s1
          have S4 := Lib.hid s4
          have S5 := Lib.hid s5
          have L0 := Lib.hid hl0
          clear s1 s4 s5 hl0 e5
          go_wp2_with (at_builtin; refine wpList_append_sl _ rfl (.tmp 28) (.tmp 36) 71 rfl w.heap.size 92 i0 _ 3 40 Tryz.underlying71 hi0 hz0 hz1 hz2 rfl (by omega) _ M _ rfl L0.out _ _ 1 1 ([Value.int .i64 s.n, .string s.t, .string s.u]) rfl S5.out S1.out s2 s3 S4.out ?_)
          intro v1 w2 hown1 hg1 hat1
          have hb2 : Below w.heap.size w w2 := (((hb.alloc hb.size _).alloc (by have := hb.size; simp; omega) _).grown hg1 S4.out (fun g hg => (HO.out.lt g hg).1))
          clear S1 S4 S5 L0 hg1 hat1
          go_wp2_with fail
          go_roundg (L.length - (k + 1))
          case measure => omega
          case rel =>
            refine ⟨k + 1, by omega, rfl, by go_num, ?_, hb2⟩
            rw [HN.out, if_pos HKD.out, List.length_append, HM.out, lds, List.flatMap_append]
            simpa [lds, ldV] using hown1
        · have e1 : (s.kd == 30) = false := by simpa using hkd
          have HKD := Lib.hid hkd
          clear hkd
          go_wp2_with fail
          go_roundg (L.length - (k + 1))
          case measure => omega
          case rel =>
            refine ⟨k + 1, by omega, rfl, by go_num, ?_, hb.alloc hb.size _⟩
            rw [HN.out, if_neg HKD.out, List.append_nil, HM.out]
            exact World.ownsRow.alloc HO.out _
      · obtain rfl : k = L.length := by omega
        rw [List.take_of_length_le (Nat.le_refl _)] at ho
        have HO := Lib.hid ho
        clear ho
        rw [List.take_of_length_le (Nat.le_refl _)] at hv1 ⊢
        go_wp2_with fail
        go_ret2
        exact ⟨hb, _, rfl, HO.out⟩

theorem strNe {t : Ty} {T : ByteArray} : ((str t).toList == T.toList) = decide (str t = T) := by
  rw [Bool.eq_iff_iff]
  simp only [Lib.toList_data, beq_iff_eq, decide_eq_true_eq]
  constructor
  · intro h; exact ByteArray.ext (Array.toList_inj.1 h)
  · intro e; rw [e]
/-- What check answers. -/
def ChkQ (R : Int × List Tn) (w : World) (e : Ending) (w' : World) : Prop := Below w.heap.size w w' ∧ if R.1 = 0 then ∃ v, e = .returned (.tuple #[v, .int .i64 0]) ∧ w'.ownsRow w.heap.size 92 3 v R.2.length (lds R.2)
  else e = .returned (.tuple #[.slice none 0 0, .int .i64 R.1])
theorem ChkQ.bad {E : Int} {l : List Tn} {w w' : World} (h : Below w.heap.size w w') (hE : E ≠ 0) : ChkQ (E, l) w (.returned (.tuple #[.slice none 0 0, .int .i64 E])) w' := by
  refine ⟨h, ?_⟩
  rw [if_neg hE]
theorem ChkQ.ok {l : List Tn} {v : Value} {w w' : World} (h : Below w.heap.size w w') (hv : w'.ownsRow w.heap.size 92 3 v l.length (lds l)) : ChkQ (0, l) w (.returned (.tuple #[v, .int .i64 0])) w' := by
  refine ⟨h, ?_⟩
  rw [if_pos rfl]
  exact ⟨v, rfl, hv⟩
theorem ld_cells {W : World} {base n c k : Nat} {A : Option Addr} {l : List Tn} {s : Tn} (h : W.ownsRow base 92 3 (.slice A n c) n (lds l)) (hk : k < n) (hs : l[k]? = some s) :
    ∃ b, A = some ⟨b, 0, none⟩ ∧ b < W.heap.size ∧ W.cell? ⟨b, k * 3, none⟩ = some (.int .i64 s.n) ∧ W.cell? ⟨b, k * 3 + 1, none⟩ = some (.string s.t) ∧ W.cell? ⟨b, k * 3 + 2, none⟩ = some (.string s.u) := by
  obtain ⟨g, cap, hv, _, hlt⟩ := h.form (by omega)
  injection hv with hA _ _
  subst hA
  have key : ∀ j u, j < 3 → (ldV s)[j]? = some u → W.cell? ⟨g, k * 3 + j, none⟩ = some u := by
    intro j u hj hu
    have := h.cells (g := g) rfl (k * 3 + j) u (by rw [lds_at l k s j hs hj]; exact hu)
    rwa [add_flat, Nat.zero_add] at this
  exact ⟨g, rfl, hlt, key 0 _ (by omega) rfl, key 1 _ (by omega) rfl, key 2 _ (by omega) rfl⟩

set_option maxRecDepth 100000 in
set_option maxHeartbeats 2000000 in
theorem check_j (L : List Tn) (A : Option Addr) (c : Nat) (T : ByteArray) (B : Option Addr) (N d : Nat) (w : World) (hN : L.length ≤ 1000000) (hNN : N ≤ 1000000) (hLc : L.length ≤ c) (hS : ∀ x ∈ L, x.small) (hL : LT w w.heap.size A L) :
    Calls Tryz.prog 26 #[.agg #[.slice A L.length c, .string T, .slice B N d]] w fun e w' => ChkQ (chkP L T N) w e w' := by
  have hC := fun W (hW : LT W W.heap.size A L) => Check_any L A c W hN hLc hS hW
  have hCa := fun W (hW : LT W W.heap.size A L) => Casts_any L A c W hN hLc hS hW
  have HA := Lib.hid (show ∀ W, Below w.heap.size w W → LT W W.heap.size A L from fun W hb => (hL.below hb).fresh (Nat.le_refl _))
  have hnz : ∀ E x, chk L = .bad E x → E ≠ 0 := fun E x h => chk_bad h
  have HP := Lib.hid (show ∀ t, chk L = .ok t → chkP L T N = if str t ≠ T then (23, []) else if ∃ c ∈ laidL L, (N : Int) < c.n then (1, []) else (0, laidL L) from fun t h => by unfold chkP; rw [h])
  have HQ := Lib.hid (show ∀ E x, chk L = .bad E x → chkP L T N = (E, []) from fun E x h => by unfold chkP; rw [h])
  have HM := Lib.hid (show (laidL L).length ≤ L.length from by have := laid_le L L.length; rwa [List.take_of_length_le (Nat.le_refl _)] at this)
  obtain ⟨P, hP⟩ : ∃ P, chkP L T N = P := ⟨_, rfl⟩
  rw [hP] at HP HQ
  rw [hP]
  clear hP hL hS hLc
  have HC := Lib.hid hC
  clear hC
  generalize chk L = R at *
  cases R with
  | bad E x =>
    have hE := hnz E x rfl
    have hE2 : (E != 0) = true := by simpa using hE
    have hq := HQ.out E x rfl
    subst hq
    have HB := Lib.hid hE
    clear hnz hE hCa HM HP HQ
    go_enter Tryz.func26, Tryz.ntmps26
    go_wp2_with fail
    obtain ⟨W0, hW0⟩ : ∃ W0, w.alloc (.cells #[.slice A L.length c, .string T, .slice B N d] 25) = W0 := ⟨_, rfl⟩
    have hb0 : Below w.heap.size w W0 := by rw [← hW0]; exact bal b0 _
    have hk0 : Blk W0 w.heap.size 25 #[.slice A L.length c, .string T, .slice B N d] := by rw [← hW0]; exact Blk.new _ _ _
    have hC0 := HC.out W0 (HA.out _ hb0)
    rw [hW0]
    unfold chkV at hC0
    (refine hC0.mono ?_); rintro e w1 ⟨rfl, hb⟩
    clear hW0 hk0
    have HB1 := Lib.hid (bl hb0 hb)
    clear hb0 hb hC0
    go_wp2_with fail
    go_ret2
    exact ChkQ.bad HB1.out HB.out
  | ok t =>
    have hq := HP.out t rfl
    have HCa := Lib.hid hCa
    clear hnz hCa HP HQ
    have hne := strNe (t := t) (T := T)
    by_cases hT : str t = T
    rotate_left
    · rw [if_pos hT] at hq
      subst hq
      rw [decide_eq_false hT] at hne
      clear hT
      go_enter Tryz.func26, Tryz.ntmps26
      go_wp2_with fail
      obtain ⟨W0, hW0⟩ : ∃ W0, w.alloc (.cells #[.slice A L.length c, .string T, .slice B N d] 25) = W0 := ⟨_, rfl⟩
      have hb0 : Below w.heap.size w W0 := by rw [← hW0]; exact bal b0 _
      have hk0 : Blk W0 w.heap.size 25 #[.slice A L.length c, .string T, .slice B N d] := by rw [← hW0]; exact Blk.new _ _ _
      have hC0 := HC.out W0 (HA.out _ hb0)
      rw [hW0]
      unfold chkV at hC0
      have HB := Lib.hid (And.intro hb0 hk0)
      (refine hC0.mono ?_); rintro e w1 ⟨rfl, hb⟩
      clear hb0 hk0 hC0
      have hk1 := HB.out.2.below hb HB.out.2.lt
      have k1 : w1.cell? ⟨w.heap.size, 1, none⟩ = some (.string T) := (hk1.cell 1).trans rfl
      clear hW0 hk1
      have HB1 := Lib.hid (bl HB.out.1 hb)
      clear hb
      go_wp2_with fail
      go_ret2
      exact ChkQ.bad HB1.out (by decide)
    rw [if_neg (by simpa using hT)] at hq
    rw [decide_eq_true hT] at hne
    clear hT
    have HQ := Lib.hid hq
    clear hq
    go_enter Tryz.func26, Tryz.ntmps26
    go_wp2_with fail
    obtain ⟨W0, hW0⟩ : ∃ W0, w.alloc (.cells #[.slice A L.length c, .string T, .slice B N d] 25) = W0 := ⟨_, rfl⟩
    have hb0 : Below w.heap.size w W0 := by rw [← hW0]; exact bal b0 _
    have hk0 : Blk W0 w.heap.size 25 #[.slice A L.length c, .string T, .slice B N d] := by rw [← hW0]; exact Blk.new _ _ _
    have hC0 := HC.out W0 (HA.out _ hb0)
    rw [hW0]
    unfold chkV at hC0
    have HB := Lib.hid (And.intro hb0 hk0)
    (refine hC0.mono ?_); rintro e w1 ⟨rfl, hb⟩
    clear hb0 hk0 hC0
    have hk1 := HB.out.2.below hb HB.out.2.lt
    have k0 : w1.cell? ⟨w.heap.size, 0, none⟩ = some (.slice A L.length c) := (hk1.cell 0).trans rfl
    have k1 : w1.cell? ⟨w.heap.size, 1, none⟩ = some (.string T) := (hk1.cell 1).trans rfl
    have HB1 := Lib.hid (And.intro (bl HB.out.1 hb) hk1)
    clear hb hk1 hW0
    go_wp2_with fail
    (refine (HCa.out w1 (HA.out _ HB1.out.1)).mono ?_); rintro e w2 ⟨hb, v, rfl, ho⟩
    obtain ⟨Av, cv, rfl, hv1, hv2⟩ := own_shape ho
    obtain ⟨l, hl⟩ : ∃ l, laidL L = l := ⟨_, rfl⟩
    rw [hl] at HQ HM ho hv1
    rw [hl]
    clear hl
    obtain ⟨M, hM⟩ : ∃ M, l.length = M := ⟨_, rfl⟩
    rw [hM] at HM ho hv1
    rw [hM]
    have hMN : M ≤ 1000000 := Nat.le_trans HM.out hN
    have HO := Lib.hid (And.intro (bl HB1.out.1 hb) (And.intro (HB1.out.2.below hb HB1.out.2.lt) (And.intro ho hM)))
    clear hb ho hM k0 k1
    go_wp2_with fail
    go_loopg [33] M (fun q i wr => ∃ k : Nat, k ≤ M ∧ q = M - k ∧ i = .int .i64 k ∧ (∀ x ∈ l.take k, x.n ≤ (N : Int)) ∧ Below w2.heap.size w2 wr)
    case atStart => exact ⟨0, by omega, rfl, rfl, by intro x hx; simp at hx, Below.refl _ _⟩
    case round =>
      obtain ⟨k, hk, rfl, rfl, hall, hb⟩ := hrel
      have HALL := Lib.hid hall
      clear hall
      by_cases hlt : k < M
      · obtain ⟨s, hs⟩ : ∃ s, l[k]? = some s := ⟨_, List.getElem?_eq_getElem (by rw [HO.out.2.2.2]; exact hlt)⟩
        obtain ⟨bb, rfl, hbb, c0, c1, c2⟩ := ld_cells HO.out.2.2.1 hlt hs
        replace c0 := (hb.cell (p := ⟨bb, k * 3, none⟩) hbb).trans c0
        replace c1 := (hb.cell (p := ⟨bb, k * 3 + 1, none⟩) hbb).trans c1
        replace c2 := (hb.cell (p := ⟨bb, k * 3 + 2, none⟩) hbb).trans c2
        have hk2 := HO.out.2.1.below hb HO.out.2.1.lt
        have k2 : wr.cell? ⟨w.heap.size, 2, none⟩ = some (.slice B N d) := (hk2.cell 2).trans rfl
        have HS := Lib.hid hs
        have hsz : w.heap.size < wr.heap.size := hk2.lt
        have HB2 := Lib.hid hb
        clear hs hk2 hb
        by_cases hgt : (N : Int) < s.n
        · have HG := Lib.hid hgt
          go_wp2_with fail
          go_ret2
          rw [HQ.out, if_pos ⟨s, List.mem_of_getElem? HS.out, HG.out⟩]
          exact ChkQ.bad (bal (bl HO.out.1 HB2.out) _) (by decide)
        · have HG := Lib.hid hgt
          have hle : s.n ≤ (N : Int) := by omega
          go_wp2_with fail
          go_roundg (M - (k + 1))
          case measure => omega
          case rel =>
            refine ⟨k + 1, by omega, rfl, by go_num, ?_, HB2.out.alloc HB2.out.size _⟩
            intro x hx
            rw [List.take_add_one, HS.out] at hx
            simp only [Option.toList_some, List.mem_append, List.mem_singleton] at hx
            rcases hx with hx | rfl
            · exact HALL.out x hx
            · have := HG.out; omega
      · obtain rfl : k = M := by omega
        go_wp2_with fail
        go_ret2
        have hall := HALL.out
        rw [List.take_of_length_le (by rw [HO.out.2.2.2]; exact Nat.le_refl _)] at hall
        rw [HQ.out, if_neg (by rintro ⟨x, hx, h⟩; have := hall x hx; omega)]
        have ho := own_below HO.out.2.2.1 hb
        have hM := HO.out.2.2.2
        refine ChkQ.ok (bl HO.out.1 hb) ?_
        rw [hM]
        exact own_less ho (by have := HB1.out.1.size; omega)
end Go.Proofs.YtmagljnlfponaaaGreat.J
