/- Parts of this claim: RtD. -/
import Derived.Test.YtmagljnlfponaaaGreatP05
set_option linter.unusedVariables false
set_option linter.unusedSimpArgs false
/- RtD -/
namespace Go.Proofs.YtmagljnlfponaaaGreat.R
open Go.RowKit Go.Proofs.YtmagljnlfponaaaGreat.B Go.Proofs.YtmagljnlfponaaaGreat.T Go.Proofs.YtmagljnlfponaaaGreat.K
set_option linter.unusedVariables false
set_option linter.unusedSimpArgs false

/-- Behind ahead: E is what is wrong with the node. -/
def AhQ (E x : Int) (wb : Nat) (A : Option Addr) (N c : Nat) (a : Int) (al : Value) (w : World) (en : Ending) (w' : World) : Prop :=
  en = .returned (.tuple #[]) ∧ Bt wb w w' ∧ Wk w' wb A N c a E (if E = 0 then 0 else x) al
section
variable {E x : Int} {wb : Nat} {A : Option Addr} {N c : Nat} {a : Int} {al : Value} {w w' : World}
theorem AhQ.ok (hb : Bt wb w w') (h : Wk w' wb A N c a 0 0 al) : AhQ 0 x wb A N c a al w (.returned (.tuple #[])) w' := ⟨rfl, hb, by rw [if_pos rfl]; exact h⟩
theorem AhQ.no (hE : E ≠ 0) (hb : Bt wb w w') (h : Wk w' wb A N c a E x al) : AhQ E x wb A N c a al w (.returned (.tuple #[])) w' := ⟨rfl, hb, by rw [if_neg hE]; exact h⟩
end
section
variable (kids nn : Int) (s t u : ByteArray) (ln cl x : Int) (b : Nat) (w : World) (wb : Nat) (A : Option Addr) (N c : Nat) (a : Int) (al : Value) (hc : Wk w wb A N c a 0 0 al)
include hc

set_option maxRecDepth 100000 in
set_option maxHeartbeats 2000000 in
theorem ah_2 : Calls Tryz.prog 83 #[.pointer (some ⟨wb, 0, none⟩), .agg #[.int .i8 2, .int .i64 kids, .int .i64 nn, .string s, .string t, .string u, .int .i64 ln, .int .i64 cl], .int .i64 x, .int .i64 b] w fun e w' => AhQ (if s.size ≤ 64 then 0 else 10) x wb A N c a al w e w' := by
  obtain ⟨c0, c1, c2, c3, c4⟩ := hc.cells
  have hcl : wb < w.heap.size := hc.lt
  by_cases h : s.size ≤ 64
  · rw [if_pos h]
    have h1 : decide ((64 : Int) < (s.size : Int)) = false := by simp; omega
    clear h
    have hc1 : Wk (w.alloc (.cells #[.int .i8 2, .int .i64 kids, .int .i64 nn, .string s, .string t, .string u, .int .i64 ln, .int .i64 cl] 60)) wb A N c a 0 0 al := Blk.alloc hc _
    have hbt1 : Bt wb w (w.alloc (.cells #[.int .i8 2, .int .i64 kids, .int .i64 nn, .string s, .string t, .string u, .int .i64 ln, .int .i64 cl] 60)) := Bt.alloc (But.refl _ _) _
    have HFL := Lib.hid (fun E => fail_new E x wb A N c a 0 al _ hc1)
    have HK := Lib.hid (And.intro hbt1 hc1)
    clear hc1 hbt1 hc c0 c1 c3 c4
    go_enter Tryz.func83, Tryz.ntmps83
    go_wp2_with fail
    go_end0
    exact AhQ.ok HK.out.1 HK.out.2
  · rw [if_neg h]
    have h1 : decide ((64 : Int) < (s.size : Int)) = true := by simp; omega
    clear h
    have hc1 : Wk (w.alloc (.cells #[.int .i8 2, .int .i64 kids, .int .i64 nn, .string s, .string t, .string u, .int .i64 ln, .int .i64 cl] 60)) wb A N c a 0 0 al := Blk.alloc hc _
    have hbt1 : Bt wb w (w.alloc (.cells #[.int .i8 2, .int .i64 kids, .int .i64 nn, .string s, .string t, .string u, .int .i64 ln, .int .i64 cl] 60)) := Bt.alloc (But.refl _ _) _
    have HFL := Lib.hid (fun E => fail_new E x wb A N c a 0 al _ hc1)
    have HK := Lib.hid (And.intro hbt1 hc1)
    clear hc1 hbt1 hc c0 c1 c3 c4
    go_enter Tryz.func83, Tryz.ntmps83
    go_wp2_with fail
    (refine (HFL.out 10).mono ?_); rintro e w1 ⟨rfl, h1, h2⟩
    have p2 := h2.cells.2.2.1
    have H := Lib.hid (And.intro h1 h2)
    clear h1 h2 c2
    go_wp2_with fail
    go_end0
    exact AhQ.no (by decide) (HK.out.1.trans H.out.1) H.out.2

set_option maxRecDepth 100000 in
set_option maxHeartbeats 2000000 in
theorem ah_3 : Calls Tryz.prog 83 #[.pointer (some ⟨wb, 0, none⟩), .agg #[.int .i8 3, .int .i64 kids, .int .i64 nn, .string s, .string t, .string u, .int .i64 ln, .int .i64 cl], .int .i64 x, .int .i64 b] w fun e w' => AhQ (if nn = 0 ∨ nn = 1 then 0 else 13) x wb A N c a al w e w' := by
  obtain ⟨c0, c1, c2, c3, c4⟩ := hc.cells
  have hcl : wb < w.heap.size := hc.lt
  by_cases h0 : nn = 0
  · subst h0
    rw [if_pos (.inl rfl)]
    have hc1 : Wk (w.alloc (.cells #[.int .i8 3, .int .i64 kids, .int .i64 0, .string s, .string t, .string u, .int .i64 ln, .int .i64 cl] 60)) wb A N c a 0 0 al := Blk.alloc hc _
    have hbt1 : Bt wb w (w.alloc (.cells #[.int .i8 3, .int .i64 kids, .int .i64 0, .string s, .string t, .string u, .int .i64 ln, .int .i64 cl] 60)) := Bt.alloc (But.refl _ _) _
    have HFL := Lib.hid (fun E => fail_new E x wb A N c a 0 al _ hc1)
    have HK := Lib.hid (And.intro hbt1 hc1)
    clear hc1 hbt1 hc c0 c1 c3 c4
    go_enter Tryz.func83, Tryz.ntmps83
    go_wp2_with fail
    go_end0
    exact AhQ.ok HK.out.1 HK.out.2
  by_cases h1 : nn = 1
  · subst h1
    rw [if_pos (.inr rfl)]
    have hc1 : Wk (w.alloc (.cells #[.int .i8 3, .int .i64 kids, .int .i64 1, .string s, .string t, .string u, .int .i64 ln, .int .i64 cl] 60)) wb A N c a 0 0 al := Blk.alloc hc _
    have hbt1 : Bt wb w (w.alloc (.cells #[.int .i8 3, .int .i64 kids, .int .i64 1, .string s, .string t, .string u, .int .i64 ln, .int .i64 cl] 60)) := Bt.alloc (But.refl _ _) _
    have HFL := Lib.hid (fun E => fail_new E x wb A N c a 0 al _ hc1)
    have HK := Lib.hid (And.intro hbt1 hc1)
    clear hc1 hbt1 hc c0 c1 c3 c4
    go_enter Tryz.func83, Tryz.ntmps83
    go_wp2_with fail
    go_end0
    exact AhQ.ok HK.out.1 HK.out.2
  · rw [if_neg (fun h => h.elim h0 h1)]
    have e0 : (nn == 0) = false := by simpa using h0
    have e1 : (nn == 1) = false := by simpa using h1
    have e2 : (nn != 0) = true := by simpa using h0
    have e3 : (nn != 1) = true := by simpa using h1
    clear h0 h1
    have hc1 : Wk (w.alloc (.cells #[.int .i8 3, .int .i64 kids, .int .i64 nn, .string s, .string t, .string u, .int .i64 ln, .int .i64 cl] 60)) wb A N c a 0 0 al := Blk.alloc hc _
    have hbt1 : Bt wb w (w.alloc (.cells #[.int .i8 3, .int .i64 kids, .int .i64 nn, .string s, .string t, .string u, .int .i64 ln, .int .i64 cl] 60)) := Bt.alloc (But.refl _ _) _
    have HFL := Lib.hid (fun E => fail_new E x wb A N c a 0 al _ hc1)
    have HK := Lib.hid (And.intro hbt1 hc1)
    clear hc1 hbt1 hc c0 c1 c3 c4
    go_enter Tryz.func83, Tryz.ntmps83
    go_wp2_with fail
    (refine (HFL.out 13).mono ?_); rintro e w1 ⟨rfl, h1, h2⟩
    have p2 := h2.cells.2.2.1
    have H := Lib.hid (And.intro h1 h2)
    clear h1 h2 c2
    go_wp2_with fail
    go_end0
    exact AhQ.no (by decide) (HK.out.1.trans H.out.1) H.out.2

set_option maxRecDepth 100000 in
set_option maxHeartbeats 2000000 in
theorem ah_4 : Calls Tryz.prog 83 #[.pointer (some ⟨wb, 0, none⟩), .agg #[.int .i8 4, .int .i64 kids, .int .i64 nn, .string s, .string t, .string u, .int .i64 ln, .int .i64 cl], .int .i64 x, .int .i64 b] w fun e w' => AhQ (if 0 ≤ nn ∧ nn < b then 0 else 22) x wb A N c a al w e w' := by
  obtain ⟨c0, c1, c2, c3, c4⟩ := hc.cells
  have hcl : wb < w.heap.size := hc.lt
  by_cases h0 : 0 ≤ nn
  · have e0 : decide (nn < 0) = false := by simpa using h0
    by_cases h1 : nn < b
    · rw [if_pos ⟨h0, h1⟩]
      have e1 : decide ((b : Int) ≤ nn) = false := by simpa using h1
      clear h0 h1
      have hc1 : Wk (w.alloc (.cells #[.int .i8 4, .int .i64 kids, .int .i64 nn, .string s, .string t, .string u, .int .i64 ln, .int .i64 cl] 60)) wb A N c a 0 0 al := Blk.alloc hc _
      have hbt1 : Bt wb w (w.alloc (.cells #[.int .i8 4, .int .i64 kids, .int .i64 nn, .string s, .string t, .string u, .int .i64 ln, .int .i64 cl] 60)) := Bt.alloc (But.refl _ _) _
      have HFL := Lib.hid (fun E => fail_new E x wb A N c a 0 al _ hc1)
      have HK := Lib.hid (And.intro hbt1 hc1)
      clear hc1 hbt1 hc c0 c1 c3 c4
      go_enter Tryz.func83, Tryz.ntmps83
      go_wp2_with fail
      go_end0
      exact AhQ.ok HK.out.1 HK.out.2
    · rw [if_neg (fun h => h1 h.2)]
      have e1 : decide ((b : Int) ≤ nn) = true := by simpa using h1
      clear h0 h1
      have hc1 : Wk (w.alloc (.cells #[.int .i8 4, .int .i64 kids, .int .i64 nn, .string s, .string t, .string u, .int .i64 ln, .int .i64 cl] 60)) wb A N c a 0 0 al := Blk.alloc hc _
      have hbt1 : Bt wb w (w.alloc (.cells #[.int .i8 4, .int .i64 kids, .int .i64 nn, .string s, .string t, .string u, .int .i64 ln, .int .i64 cl] 60)) := Bt.alloc (But.refl _ _) _
      have HFL := Lib.hid (fun E => fail_new E x wb A N c a 0 al _ hc1)
      have HK := Lib.hid (And.intro hbt1 hc1)
      clear hc1 hbt1 hc c0 c1 c3 c4
      go_enter Tryz.func83, Tryz.ntmps83
      go_wp2_with fail
      (refine (HFL.out 22).mono ?_); rintro e w1 ⟨rfl, h1, h2⟩
      have p2 := h2.cells.2.2.1
      have H := Lib.hid (And.intro h1 h2)
      clear h1 h2 c2
      go_wp2_with fail
      go_end0
      exact AhQ.no (by decide) (HK.out.1.trans H.out.1) H.out.2
  · rw [if_neg (fun h => h0 h.1)]
    have e0 : decide (nn < 0) = true := by simpa using h0
    clear h0
    have hc1 : Wk (w.alloc (.cells #[.int .i8 4, .int .i64 kids, .int .i64 nn, .string s, .string t, .string u, .int .i64 ln, .int .i64 cl] 60)) wb A N c a 0 0 al := Blk.alloc hc _
    have hbt1 : Bt wb w (w.alloc (.cells #[.int .i8 4, .int .i64 kids, .int .i64 nn, .string s, .string t, .string u, .int .i64 ln, .int .i64 cl] 60)) := Bt.alloc (But.refl _ _) _
    have HFL := Lib.hid (fun E => fail_new E x wb A N c a 0 al _ hc1)
    have HK := Lib.hid (And.intro hbt1 hc1)
    clear hc1 hbt1 hc c0 c1 c3 c4
    go_enter Tryz.func83, Tryz.ntmps83
    go_wp2_with fail
    (refine (HFL.out 22).mono ?_); rintro e w1 ⟨rfl, h1, h2⟩
    have p2 := h2.cells.2.2.1
    have H := Lib.hid (And.intro h1 h2)
    clear h1 h2 c2
    go_wp2_with fail
    go_end0
    exact AhQ.no (by decide) (HK.out.1.trans H.out.1) H.out.2

set_option maxRecDepth 100000 in
set_option maxHeartbeats 2000000 in
theorem ah_21 (ht : t.size ≤ 4611686018427387904) : Calls Tryz.prog 83 #[.pointer (some ⟨wb, 0, none⟩), .agg #[.int .i8 21, .int .i64 kids, .int .i64 nn, .string s, .string t, .string u, .int .i64 ln, .int .i64 cl], .int .i64 x, .int .i64 b] w fun e w' => AhQ (if isB t = true then 0 else 20) x wb A N c a al w e w' := by
  obtain ⟨c0, c1, c2, c3, c4⟩ := hc.cells
  have hcl : wb < w.heap.size := hc.lt
  have HT := Lib.hid fun W => good04_any t W ht
  obtain ⟨r, hr⟩ : ∃ r, isB t = r := ⟨_, rfl⟩
  rw [hr] at HT ⊢
  clear hr
  clear ht
  cases r
  · rw [if_neg (by simp)]
    have hc1 : Wk (w.alloc (.cells #[.int .i8 21, .int .i64 kids, .int .i64 nn, .string s, .string t, .string u, .int .i64 ln, .int .i64 cl] 60)) wb A N c a 0 0 al := Blk.alloc hc _
    have hbt1 : Bt wb w (w.alloc (.cells #[.int .i8 21, .int .i64 kids, .int .i64 nn, .string s, .string t, .string u, .int .i64 ln, .int .i64 cl] 60)) := Bt.alloc (But.refl _ _) _
    have HFL := Lib.hid (fun E => fail_new E x wb A N c a 0 al _ hc1)
    have HK := Lib.hid (And.intro hbt1 hc1)
    clear hc1 hbt1 hc c0 c1 c3 c4
    go_enter Tryz.func83, Tryz.ntmps83
    go_wp2_with fail
    (refine (HT.out _).mono ?_); rintro e w' ⟨rfl, rfl⟩
    go_wp2_with fail
    (refine (HFL.out 20).mono ?_); rintro e w1 ⟨rfl, h1, h2⟩
    have p2 := h2.cells.2.2.1
    have H := Lib.hid (And.intro h1 h2)
    clear h1 h2 c2
    go_wp2_with fail
    go_end0
    exact AhQ.no (by decide) (HK.out.1.trans H.out.1) H.out.2
  · rw [if_pos rfl]
    have hc1 : Wk (w.alloc (.cells #[.int .i8 21, .int .i64 kids, .int .i64 nn, .string s, .string t, .string u, .int .i64 ln, .int .i64 cl] 60)) wb A N c a 0 0 al := Blk.alloc hc _
    have hbt1 : Bt wb w (w.alloc (.cells #[.int .i8 21, .int .i64 kids, .int .i64 nn, .string s, .string t, .string u, .int .i64 ln, .int .i64 cl] 60)) := Bt.alloc (But.refl _ _) _
    have HFL := Lib.hid (fun E => fail_new E x wb A N c a 0 al _ hc1)
    have HK := Lib.hid (And.intro hbt1 hc1)
    clear hc1 hbt1 hc c0 c1 c3 c4
    go_enter Tryz.func83, Tryz.ntmps83
    go_wp2_with fail
    (refine (HT.out _).mono ?_); rintro e w' ⟨rfl, rfl⟩
    go_wp2_with fail
    go_end0
    exact AhQ.ok HK.out.1 HK.out.2

set_option maxRecDepth 100000 in
set_option maxHeartbeats 2000000 in
theorem ah_5 (ht : t.size ≤ 4611686018427387904) (hu : u.size ≤ 4611686018427387904) : Calls Tryz.prog 83 #[.pointer (some ⟨wb, 0, none⟩), .agg #[.int .i8 5, .int .i64 kids, .int .i64 nn, .string s, .string t, .string u, .int .i64 ln, .int .i64 cl], .int .i64 x, .int .i64 b] w fun e w' => AhQ (if isB t = true ∧ isB u = true then 0 else 20) x wb A N c a al w e w' := by
  obtain ⟨c0, c1, c2, c3, c4⟩ := hc.cells
  have hcl : wb < w.heap.size := hc.lt
  have HT := Lib.hid fun W => good04_any t W ht
  have HU := Lib.hid fun W => good04_any u W hu
  obtain ⟨r, hr⟩ : ∃ r, isB t = r := ⟨_, rfl⟩
  rw [hr] at HT ⊢
  clear hr
  obtain ⟨q, hq⟩ : ∃ q, isB u = q := ⟨_, rfl⟩
  rw [hq] at HU ⊢
  clear hq
  clear ht hu
  cases r
  · rw [if_neg (by simp)]
    have hc1 : Wk (w.alloc (.cells #[.int .i8 5, .int .i64 kids, .int .i64 nn, .string s, .string t, .string u, .int .i64 ln, .int .i64 cl] 60)) wb A N c a 0 0 al := Blk.alloc hc _
    have hbt1 : Bt wb w (w.alloc (.cells #[.int .i8 5, .int .i64 kids, .int .i64 nn, .string s, .string t, .string u, .int .i64 ln, .int .i64 cl] 60)) := Bt.alloc (But.refl _ _) _
    have HFL := Lib.hid (fun E => fail_new E x wb A N c a 0 al _ hc1)
    have HK := Lib.hid (And.intro hbt1 hc1)
    clear hc1 hbt1 hc c0 c1 c3 c4
    go_enter Tryz.func83, Tryz.ntmps83
    go_wp2_with fail
    (refine (HT.out _).mono ?_); rintro e w' ⟨rfl, rfl⟩
    go_wp2_with fail
    (refine (HFL.out 20).mono ?_); rintro e w1 ⟨rfl, h1, h2⟩
    have p2 := h2.cells.2.2.1
    have H := Lib.hid (And.intro h1 h2)
    clear h1 h2 c2
    go_wp2_with fail
    go_end0
    exact AhQ.no (by decide) (HK.out.1.trans H.out.1) H.out.2
  cases q
  · rw [if_neg (by simp)]
    have hc1 : Wk (w.alloc (.cells #[.int .i8 5, .int .i64 kids, .int .i64 nn, .string s, .string t, .string u, .int .i64 ln, .int .i64 cl] 60)) wb A N c a 0 0 al := Blk.alloc hc _
    have hbt1 : Bt wb w (w.alloc (.cells #[.int .i8 5, .int .i64 kids, .int .i64 nn, .string s, .string t, .string u, .int .i64 ln, .int .i64 cl] 60)) := Bt.alloc (But.refl _ _) _
    have HFL := Lib.hid (fun E => fail_new E x wb A N c a 0 al _ hc1)
    have HK := Lib.hid (And.intro hbt1 hc1)
    clear hc1 hbt1 hc c0 c1 c3 c4
    go_enter Tryz.func83, Tryz.ntmps83
    go_wp2_with fail
    (refine (HT.out _).mono ?_); rintro e w' ⟨rfl, rfl⟩
    go_wp2_with fail
    (refine (HU.out _).mono ?_); rintro e w' ⟨rfl, rfl⟩
    go_wp2_with fail
    (refine (HFL.out 20).mono ?_); rintro e w1 ⟨rfl, h1, h2⟩
    have p2 := h2.cells.2.2.1
    have H := Lib.hid (And.intro h1 h2)
    clear h1 h2 c2
    go_wp2_with fail
    go_end0
    exact AhQ.no (by decide) (HK.out.1.trans H.out.1) H.out.2
  · rw [if_pos ⟨rfl, rfl⟩]
    have hc1 : Wk (w.alloc (.cells #[.int .i8 5, .int .i64 kids, .int .i64 nn, .string s, .string t, .string u, .int .i64 ln, .int .i64 cl] 60)) wb A N c a 0 0 al := Blk.alloc hc _
    have hbt1 : Bt wb w (w.alloc (.cells #[.int .i8 5, .int .i64 kids, .int .i64 nn, .string s, .string t, .string u, .int .i64 ln, .int .i64 cl] 60)) := Bt.alloc (But.refl _ _) _
    have HFL := Lib.hid (fun E => fail_new E x wb A N c a 0 al _ hc1)
    have HK := Lib.hid (And.intro hbt1 hc1)
    clear hc1 hbt1 hc c0 c1 c3 c4
    go_enter Tryz.func83, Tryz.ntmps83
    go_wp2_with fail
    (refine (HT.out _).mono ?_); rintro e w' ⟨rfl, rfl⟩
    go_wp2_with fail
    (refine (HU.out _).mono ?_); rintro e w' ⟨rfl, rfl⟩
    go_wp2_with fail
    go_end0
    exact AhQ.ok HK.out.1 HK.out.2

set_option maxRecDepth 100000 in
set_option maxHeartbeats 2000000 in
theorem ah_6 (ht : t.size ≤ 4611686018427387904) (hu : u.size ≤ 4611686018427387904) : Calls Tryz.prog 83 #[.pointer (some ⟨wb, 0, none⟩), .agg #[.int .i8 6, .int .i64 kids, .int .i64 nn, .string s, .string t, .string u, .int .i64 ln, .int .i64 cl], .int .i64 x, .int .i64 b] w fun e w' => AhQ (if isB t = true ∧ isB u = true then 0 else 20) x wb A N c a al w e w' := by
  obtain ⟨c0, c1, c2, c3, c4⟩ := hc.cells
  have hcl : wb < w.heap.size := hc.lt
  have HT := Lib.hid fun W => good04_any t W ht
  have HU := Lib.hid fun W => good04_any u W hu
  obtain ⟨r, hr⟩ : ∃ r, isB t = r := ⟨_, rfl⟩
  rw [hr] at HT ⊢
  clear hr
  obtain ⟨q, hq⟩ : ∃ q, isB u = q := ⟨_, rfl⟩
  rw [hq] at HU ⊢
  clear hq
  clear ht hu
  cases r
  · rw [if_neg (by simp)]
    have hc1 : Wk (w.alloc (.cells #[.int .i8 6, .int .i64 kids, .int .i64 nn, .string s, .string t, .string u, .int .i64 ln, .int .i64 cl] 60)) wb A N c a 0 0 al := Blk.alloc hc _
    have hbt1 : Bt wb w (w.alloc (.cells #[.int .i8 6, .int .i64 kids, .int .i64 nn, .string s, .string t, .string u, .int .i64 ln, .int .i64 cl] 60)) := Bt.alloc (But.refl _ _) _
    have HFL := Lib.hid (fun E => fail_new E x wb A N c a 0 al _ hc1)
    have HK := Lib.hid (And.intro hbt1 hc1)
    clear hc1 hbt1 hc c0 c1 c3 c4
    go_enter Tryz.func83, Tryz.ntmps83
    go_wp2_with fail
    (refine (HT.out _).mono ?_); rintro e w' ⟨rfl, rfl⟩
    go_wp2_with fail
    (refine (HFL.out 20).mono ?_); rintro e w1 ⟨rfl, h1, h2⟩
    have p2 := h2.cells.2.2.1
    have H := Lib.hid (And.intro h1 h2)
    clear h1 h2 c2
    go_wp2_with fail
    go_end0
    exact AhQ.no (by decide) (HK.out.1.trans H.out.1) H.out.2
  cases q
  · rw [if_neg (by simp)]
    have hc1 : Wk (w.alloc (.cells #[.int .i8 6, .int .i64 kids, .int .i64 nn, .string s, .string t, .string u, .int .i64 ln, .int .i64 cl] 60)) wb A N c a 0 0 al := Blk.alloc hc _
    have hbt1 : Bt wb w (w.alloc (.cells #[.int .i8 6, .int .i64 kids, .int .i64 nn, .string s, .string t, .string u, .int .i64 ln, .int .i64 cl] 60)) := Bt.alloc (But.refl _ _) _
    have HFL := Lib.hid (fun E => fail_new E x wb A N c a 0 al _ hc1)
    have HK := Lib.hid (And.intro hbt1 hc1)
    clear hc1 hbt1 hc c0 c1 c3 c4
    go_enter Tryz.func83, Tryz.ntmps83
    go_wp2_with fail
    (refine (HT.out _).mono ?_); rintro e w' ⟨rfl, rfl⟩
    go_wp2_with fail
    (refine (HU.out _).mono ?_); rintro e w' ⟨rfl, rfl⟩
    go_wp2_with fail
    (refine (HFL.out 20).mono ?_); rintro e w1 ⟨rfl, h1, h2⟩
    have p2 := h2.cells.2.2.1
    have H := Lib.hid (And.intro h1 h2)
    clear h1 h2 c2
    go_wp2_with fail
    go_end0
    exact AhQ.no (by decide) (HK.out.1.trans H.out.1) H.out.2
  · rw [if_pos ⟨rfl, rfl⟩]
    have hc1 : Wk (w.alloc (.cells #[.int .i8 6, .int .i64 kids, .int .i64 nn, .string s, .string t, .string u, .int .i64 ln, .int .i64 cl] 60)) wb A N c a 0 0 al := Blk.alloc hc _
    have hbt1 : Bt wb w (w.alloc (.cells #[.int .i8 6, .int .i64 kids, .int .i64 nn, .string s, .string t, .string u, .int .i64 ln, .int .i64 cl] 60)) := Bt.alloc (But.refl _ _) _
    have HFL := Lib.hid (fun E => fail_new E x wb A N c a 0 al _ hc1)
    have HK := Lib.hid (And.intro hbt1 hc1)
    clear hc1 hbt1 hc c0 c1 c3 c4
    go_enter Tryz.func83, Tryz.ntmps83
    go_wp2_with fail
    (refine (HT.out _).mono ?_); rintro e w' ⟨rfl, rfl⟩
    go_wp2_with fail
    (refine (HU.out _).mono ?_); rintro e w' ⟨rfl, rfl⟩
    go_wp2_with fail
    go_end0
    exact AhQ.ok HK.out.1 HK.out.2

set_option maxRecDepth 100000 in
set_option maxHeartbeats 2000000 in
theorem ah_30 (ht : t.size ≤ 4611686018427387904) (hu : u.size ≤ 4611686018427387904) : Calls Tryz.prog 83 #[.pointer (some ⟨wb, 0, none⟩), .agg #[.int .i8 30, .int .i64 kids, .int .i64 nn, .string s, .string t, .string u, .int .i64 ln, .int .i64 cl], .int .i64 x, .int .i64 b] w fun e w' => AhQ (if isB t = true ∧ isB u = true then (if allT askC (ty t) (ty u) = true then (if 1 ≤ nn ∧ nn ≤ 2147483647 then 0 else 13) else 23) else 20) x wb A N c a al w e w' := by
  obtain ⟨c0, c1, c2, c3, c4⟩ := hc.cells
  have hcl : wb < w.heap.size := hc.lt
  have HT := Lib.hid fun W => good04_any t W ht
  have HU := Lib.hid fun W => good04_any u W hu
  by_cases hr : isB t = false
  · rw [hr] at HT ⊢
    rw [if_neg (by simp)]
    clear hr ht hu
    have hc1 : Wk (w.alloc (.cells #[.int .i8 30, .int .i64 kids, .int .i64 nn, .string s, .string t, .string u, .int .i64 ln, .int .i64 cl] 60)) wb A N c a 0 0 al := Blk.alloc hc _
    have hbt1 : Bt wb w (w.alloc (.cells #[.int .i8 30, .int .i64 kids, .int .i64 nn, .string s, .string t, .string u, .int .i64 ln, .int .i64 cl] 60)) := Bt.alloc (But.refl _ _) _
    have HFL := Lib.hid (fun E => fail_new E x wb A N c a 0 al _ hc1)
    have HK := Lib.hid (And.intro hbt1 hc1)
    clear hc1 hbt1 hc c0 c1 c3 c4
    go_enter Tryz.func83, Tryz.ntmps83
    go_wp2_with fail
    (refine (HT.out _).mono ?_); rintro e w' ⟨rfl, rfl⟩
    go_wp2_with fail
    (refine (HFL.out 20).mono ?_); rintro e w1 ⟨rfl, h1, h2⟩
    have p2 := h2.cells.2.2.1
    have H := Lib.hid (And.intro h1 h2)
    clear h1 h2 c2
    go_wp2_with fail
    go_end0
    exact AhQ.no (by decide) (HK.out.1.trans H.out.1) H.out.2
  replace hr : isB t = true := by simpa using hr
  by_cases hq : isB u = false
  · rw [hr] at HT ⊢
    rw [hq] at HU ⊢
    rw [if_neg (by simp)]
    clear hr hq ht hu
    have hc1 : Wk (w.alloc (.cells #[.int .i8 30, .int .i64 kids, .int .i64 nn, .string s, .string t, .string u, .int .i64 ln, .int .i64 cl] 60)) wb A N c a 0 0 al := Blk.alloc hc _
    have hbt1 : Bt wb w (w.alloc (.cells #[.int .i8 30, .int .i64 kids, .int .i64 nn, .string s, .string t, .string u, .int .i64 ln, .int .i64 cl] 60)) := Bt.alloc (But.refl _ _) _
    have HFL := Lib.hid (fun E => fail_new E x wb A N c a 0 al _ hc1)
    have HK := Lib.hid (And.intro hbt1 hc1)
    clear hc1 hbt1 hc c0 c1 c3 c4
    go_enter Tryz.func83, Tryz.ntmps83
    go_wp2_with fail
    (refine (HT.out _).mono ?_); rintro e w' ⟨rfl, rfl⟩
    go_wp2_with fail
    (refine (HU.out _).mono ?_); rintro e w' ⟨rfl, rfl⟩
    go_wp2_with fail
    (refine (HFL.out 20).mono ?_); rintro e w1 ⟨rfl, h1, h2⟩
    have p2 := h2.cells.2.2.1
    have H := Lib.hid (And.intro h1 h2)
    clear h1 h2 c2
    go_wp2_with fail
    go_end0
    exact AhQ.no (by decide) (HK.out.1.trans H.out.1) H.out.2
  replace hq : isB u = true := by simpa using hq
  obtain ⟨k1, k2, k3⟩ := ty_spec hr
  obtain ⟨k4, k5, k6⟩ := ty_spec hq
  have HC := Lib.hid fun W => consR_any _ (ty t) (ty u) W (Nat.le_refl _) k1 k4 k3 k6
  rw [← k2, ← k5] at HC
  rw [hr] at HT ⊢
  rw [hq] at HU ⊢
  rw [if_pos ⟨rfl, rfl⟩]
  obtain ⟨cc, hcc⟩ : ∃ cc, allT askC (ty t) (ty u) = cc := ⟨_, rfl⟩
  rw [hcc] at HC ⊢
  clear hr hq ht hu hcc k1 k2 k3 k4 k5 k6
  by_cases h0 : 1 ≤ nn
  · have e0 : decide (nn < 1) = false := by simp; omega
    by_cases h1 : nn ≤ 2147483647
    · have e1 : decide (2147483647 < nn) = false := by simp; omega
      rw [if_pos (show 1 ≤ nn ∧ nn ≤ 2147483647 from ⟨h0, h1⟩)]
      clear h0 h1
      cases cc
      · rw [if_neg (by simp)]
        have hc1 : Wk (w.alloc (.cells #[.int .i8 30, .int .i64 kids, .int .i64 nn, .string s, .string t, .string u, .int .i64 ln, .int .i64 cl] 60)) wb A N c a 0 0 al := Blk.alloc hc _
        have hbt1 : Bt wb w (w.alloc (.cells #[.int .i8 30, .int .i64 kids, .int .i64 nn, .string s, .string t, .string u, .int .i64 ln, .int .i64 cl] 60)) := Bt.alloc (But.refl _ _) _
        have HFL := Lib.hid (fun E => fail_new E x wb A N c a 0 al _ hc1)
        have HK := Lib.hid (And.intro hbt1 hc1)
        clear hc1 hbt1 hc c0 c1 c3 c4
        go_enter Tryz.func83, Tryz.ntmps83
        go_wp2_with fail
        (refine (HT.out _).mono ?_); rintro e w' ⟨rfl, rfl⟩
        go_wp2_with fail
        (refine (HU.out _).mono ?_); rintro e w' ⟨rfl, rfl⟩
        go_wp2_with fail
        (refine (HC.out _).mono ?_); rintro e w2 ⟨rfl, hb2⟩
        have n2 : (w.alloc (.cells #[.int .i8 30, .int .i64 kids, .int .i64 nn, .string s, .string t, .string u, .int .i64 ln, .int .i64 cl] 60)).cell? ⟨w.heap.size, 2, none⟩ = some (.int .i64 nn) := ((Blk.new w _ _).cell 2).trans rfl
        have hbt2 := HK.out.1.trans (Bt.below hb2)
        have hc2 := HK.out.2.below hb2 (Nat.lt_of_lt_of_le hcl (by simp))
        have hbx := (Blk.new w 60 #[.int .i8 30, .int .i64 kids, .int .i64 nn, .string s, .string t, .string u, .int .i64 ln, .int .i64 cl]).below hb2 (by simp)
        have HFL2 := Lib.hid (fun E => fail_new E x wb A N c a 0 al _ hc2)
        have HK2 := Lib.hid (And.intro hbt2 (And.intro hc2 hbx))
        clear hb2 hbt2 hc2 hbx c2 n2
        go_wp2_with fail
        (refine (HFL2.out 23).mono ?_); rintro e w3 ⟨rfl, h1, h2⟩
        have n2 : w3.cell? ⟨w.heap.size, 2, none⟩ = some (.int .i64 nn) := ((h1.blk HK2.out.2.2 (show w.heap.size ≠ wb by omega)).cell 2).trans rfl
        have hf := fail_any 13 x wb A N c a 23 x al w3 h2
        unfold FailQ at hf
        rw [if_neg (by decide), if_neg (by decide)] at hf
        have HF := Lib.hid hf
        have H := Lib.hid (And.intro h1 h2)
        clear h1 h2 hf
        go_wp2_with fail
        go_end0
        exact AhQ.no (by decide) (HK2.out.1.trans H.out.1) H.out.2
      · rw [if_pos rfl]
        have hc1 : Wk (w.alloc (.cells #[.int .i8 30, .int .i64 kids, .int .i64 nn, .string s, .string t, .string u, .int .i64 ln, .int .i64 cl] 60)) wb A N c a 0 0 al := Blk.alloc hc _
        have hbt1 : Bt wb w (w.alloc (.cells #[.int .i8 30, .int .i64 kids, .int .i64 nn, .string s, .string t, .string u, .int .i64 ln, .int .i64 cl] 60)) := Bt.alloc (But.refl _ _) _
        have HFL := Lib.hid (fun E => fail_new E x wb A N c a 0 al _ hc1)
        have HK := Lib.hid (And.intro hbt1 hc1)
        clear hc1 hbt1 hc c0 c1 c3 c4
        go_enter Tryz.func83, Tryz.ntmps83
        go_wp2_with fail
        (refine (HT.out _).mono ?_); rintro e w' ⟨rfl, rfl⟩
        go_wp2_with fail
        (refine (HU.out _).mono ?_); rintro e w' ⟨rfl, rfl⟩
        go_wp2_with fail
        (refine (HC.out _).mono ?_); rintro e w2 ⟨rfl, hb2⟩
        have n2 : (w.alloc (.cells #[.int .i8 30, .int .i64 kids, .int .i64 nn, .string s, .string t, .string u, .int .i64 ln, .int .i64 cl] 60)).cell? ⟨w.heap.size, 2, none⟩ = some (.int .i64 nn) := ((Blk.new w _ _).cell 2).trans rfl
        have hbt2 := HK.out.1.trans (Bt.below hb2)
        have hc2 := HK.out.2.below hb2 (Nat.lt_of_lt_of_le hcl (by simp))
        have hbx := (Blk.new w 60 #[.int .i8 30, .int .i64 kids, .int .i64 nn, .string s, .string t, .string u, .int .i64 ln, .int .i64 cl]).below hb2 (by simp)
        have n2 : w2.cell? ⟨w.heap.size, 2, none⟩ = some (.int .i64 nn) := (hbx.cell 2).trans rfl
        have HFL2 := Lib.hid (fun E => fail_new E x wb A N c a 0 al _ hc2)
        have HK2 := Lib.hid (And.intro hbt2 hc2)
        clear hb2 hbt2 hc2 hbx c2
        go_wp2_with fail
        go_end0
        exact AhQ.ok HK2.out.1 HK2.out.2
    · have e1 : decide (2147483647 < nn) = true := by simp; omega
      rw [if_neg (show ¬ (1 ≤ nn ∧ nn ≤ 2147483647) from fun h => h1 h.2)]
      clear h0 h1
      cases cc
      · rw [if_neg (by simp)]
        have hc1 : Wk (w.alloc (.cells #[.int .i8 30, .int .i64 kids, .int .i64 nn, .string s, .string t, .string u, .int .i64 ln, .int .i64 cl] 60)) wb A N c a 0 0 al := Blk.alloc hc _
        have hbt1 : Bt wb w (w.alloc (.cells #[.int .i8 30, .int .i64 kids, .int .i64 nn, .string s, .string t, .string u, .int .i64 ln, .int .i64 cl] 60)) := Bt.alloc (But.refl _ _) _
        have HFL := Lib.hid (fun E => fail_new E x wb A N c a 0 al _ hc1)
        have HK := Lib.hid (And.intro hbt1 hc1)
        clear hc1 hbt1 hc c0 c1 c3 c4
        go_enter Tryz.func83, Tryz.ntmps83
        go_wp2_with fail
        (refine (HT.out _).mono ?_); rintro e w' ⟨rfl, rfl⟩
        go_wp2_with fail
        (refine (HU.out _).mono ?_); rintro e w' ⟨rfl, rfl⟩
        go_wp2_with fail
        (refine (HC.out _).mono ?_); rintro e w2 ⟨rfl, hb2⟩
        have n2 : (w.alloc (.cells #[.int .i8 30, .int .i64 kids, .int .i64 nn, .string s, .string t, .string u, .int .i64 ln, .int .i64 cl] 60)).cell? ⟨w.heap.size, 2, none⟩ = some (.int .i64 nn) := ((Blk.new w _ _).cell 2).trans rfl
        have hbt2 := HK.out.1.trans (Bt.below hb2)
        have hc2 := HK.out.2.below hb2 (Nat.lt_of_lt_of_le hcl (by simp))
        have hbx := (Blk.new w 60 #[.int .i8 30, .int .i64 kids, .int .i64 nn, .string s, .string t, .string u, .int .i64 ln, .int .i64 cl]).below hb2 (by simp)
        have HFL2 := Lib.hid (fun E => fail_new E x wb A N c a 0 al _ hc2)
        have HK2 := Lib.hid (And.intro hbt2 (And.intro hc2 hbx))
        clear hb2 hbt2 hc2 hbx c2 n2
        go_wp2_with fail
        (refine (HFL2.out 23).mono ?_); rintro e w3 ⟨rfl, h1, h2⟩
        have n2 : w3.cell? ⟨w.heap.size, 2, none⟩ = some (.int .i64 nn) := ((h1.blk HK2.out.2.2 (show w.heap.size ≠ wb by omega)).cell 2).trans rfl
        have hf := fail_any 13 x wb A N c a 23 x al w3 h2
        unfold FailQ at hf
        rw [if_neg (by decide), if_neg (by decide)] at hf
        have HF := Lib.hid hf
        have H := Lib.hid (And.intro h1 h2)
        clear h1 h2 hf
        go_wp2_with fail
        (refine HF.out.mono ?_); rintro e w4 ⟨rfl, h1, h2⟩
        have H2 := Lib.hid (And.intro h1 h2)
        clear h1 h2
        go_wp2_with fail
        go_end0
        exact AhQ.no (by decide) ((HK2.out.1.trans H.out.1).trans H2.out.1) H2.out.2
      · rw [if_pos rfl]
        have hc1 : Wk (w.alloc (.cells #[.int .i8 30, .int .i64 kids, .int .i64 nn, .string s, .string t, .string u, .int .i64 ln, .int .i64 cl] 60)) wb A N c a 0 0 al := Blk.alloc hc _
        have hbt1 : Bt wb w (w.alloc (.cells #[.int .i8 30, .int .i64 kids, .int .i64 nn, .string s, .string t, .string u, .int .i64 ln, .int .i64 cl] 60)) := Bt.alloc (But.refl _ _) _
        have HFL := Lib.hid (fun E => fail_new E x wb A N c a 0 al _ hc1)
        have HK := Lib.hid (And.intro hbt1 hc1)
        clear hc1 hbt1 hc c0 c1 c3 c4
        go_enter Tryz.func83, Tryz.ntmps83
        go_wp2_with fail
        (refine (HT.out _).mono ?_); rintro e w' ⟨rfl, rfl⟩
        go_wp2_with fail
        (refine (HU.out _).mono ?_); rintro e w' ⟨rfl, rfl⟩
        go_wp2_with fail
        (refine (HC.out _).mono ?_); rintro e w2 ⟨rfl, hb2⟩
        have n2 : (w.alloc (.cells #[.int .i8 30, .int .i64 kids, .int .i64 nn, .string s, .string t, .string u, .int .i64 ln, .int .i64 cl] 60)).cell? ⟨w.heap.size, 2, none⟩ = some (.int .i64 nn) := ((Blk.new w _ _).cell 2).trans rfl
        have hbt2 := HK.out.1.trans (Bt.below hb2)
        have hc2 := HK.out.2.below hb2 (Nat.lt_of_lt_of_le hcl (by simp))
        have hbx := (Blk.new w 60 #[.int .i8 30, .int .i64 kids, .int .i64 nn, .string s, .string t, .string u, .int .i64 ln, .int .i64 cl]).below hb2 (by simp)
        have n2 : w2.cell? ⟨w.heap.size, 2, none⟩ = some (.int .i64 nn) := (hbx.cell 2).trans rfl
        have HFL2 := Lib.hid (fun E => fail_new E x wb A N c a 0 al _ hc2)
        have HK2 := Lib.hid (And.intro hbt2 hc2)
        clear hb2 hbt2 hc2 hbx c2
        go_wp2_with fail
        (refine (HFL2.out 13).mono ?_); rintro e w3 ⟨rfl, h1, h2⟩
        have H := Lib.hid (And.intro h1 h2)
        clear h1 h2
        go_wp2_with fail
        go_end0
        exact AhQ.no (by decide) (HK2.out.1.trans H.out.1) H.out.2
  · have e0 : decide (nn < 1) = true := by simp; omega
    rw [if_neg (show ¬ (1 ≤ nn ∧ nn ≤ 2147483647) from fun h => h0 h.1)]
    clear h0
    cases cc
    · rw [if_neg (by simp)]
      have hc1 : Wk (w.alloc (.cells #[.int .i8 30, .int .i64 kids, .int .i64 nn, .string s, .string t, .string u, .int .i64 ln, .int .i64 cl] 60)) wb A N c a 0 0 al := Blk.alloc hc _
      have hbt1 : Bt wb w (w.alloc (.cells #[.int .i8 30, .int .i64 kids, .int .i64 nn, .string s, .string t, .string u, .int .i64 ln, .int .i64 cl] 60)) := Bt.alloc (But.refl _ _) _
      have HFL := Lib.hid (fun E => fail_new E x wb A N c a 0 al _ hc1)
      have HK := Lib.hid (And.intro hbt1 hc1)
      clear hc1 hbt1 hc c0 c1 c3 c4
      go_enter Tryz.func83, Tryz.ntmps83
      go_wp2_with fail
      (refine (HT.out _).mono ?_); rintro e w' ⟨rfl, rfl⟩
      go_wp2_with fail
      (refine (HU.out _).mono ?_); rintro e w' ⟨rfl, rfl⟩
      go_wp2_with fail
      (refine (HC.out _).mono ?_); rintro e w2 ⟨rfl, hb2⟩
      have n2 : (w.alloc (.cells #[.int .i8 30, .int .i64 kids, .int .i64 nn, .string s, .string t, .string u, .int .i64 ln, .int .i64 cl] 60)).cell? ⟨w.heap.size, 2, none⟩ = some (.int .i64 nn) := ((Blk.new w _ _).cell 2).trans rfl
      have hbt2 := HK.out.1.trans (Bt.below hb2)
      have hc2 := HK.out.2.below hb2 (Nat.lt_of_lt_of_le hcl (by simp))
      have hbx := (Blk.new w 60 #[.int .i8 30, .int .i64 kids, .int .i64 nn, .string s, .string t, .string u, .int .i64 ln, .int .i64 cl]).below hb2 (by simp)
      have HFL2 := Lib.hid (fun E => fail_new E x wb A N c a 0 al _ hc2)
      have HK2 := Lib.hid (And.intro hbt2 (And.intro hc2 hbx))
      clear hb2 hbt2 hc2 hbx c2 n2
      go_wp2_with fail
      (refine (HFL2.out 23).mono ?_); rintro e w3 ⟨rfl, h1, h2⟩
      have n2 : w3.cell? ⟨w.heap.size, 2, none⟩ = some (.int .i64 nn) := ((h1.blk HK2.out.2.2 (show w.heap.size ≠ wb by omega)).cell 2).trans rfl
      have hf := fail_any 13 x wb A N c a 23 x al w3 h2
      unfold FailQ at hf
      rw [if_neg (by decide), if_neg (by decide)] at hf
      have HF := Lib.hid hf
      have H := Lib.hid (And.intro h1 h2)
      clear h1 h2 hf
      go_wp2_with fail
      (refine HF.out.mono ?_); rintro e w4 ⟨rfl, h1, h2⟩
      have H2 := Lib.hid (And.intro h1 h2)
      clear h1 h2
      go_wp2_with fail
      go_end0
      exact AhQ.no (by decide) ((HK2.out.1.trans H.out.1).trans H2.out.1) H2.out.2
    · rw [if_pos rfl]
      have hc1 : Wk (w.alloc (.cells #[.int .i8 30, .int .i64 kids, .int .i64 nn, .string s, .string t, .string u, .int .i64 ln, .int .i64 cl] 60)) wb A N c a 0 0 al := Blk.alloc hc _
      have hbt1 : Bt wb w (w.alloc (.cells #[.int .i8 30, .int .i64 kids, .int .i64 nn, .string s, .string t, .string u, .int .i64 ln, .int .i64 cl] 60)) := Bt.alloc (But.refl _ _) _
      have HFL := Lib.hid (fun E => fail_new E x wb A N c a 0 al _ hc1)
      have HK := Lib.hid (And.intro hbt1 hc1)
      clear hc1 hbt1 hc c0 c1 c3 c4
      go_enter Tryz.func83, Tryz.ntmps83
      go_wp2_with fail
      (refine (HT.out _).mono ?_); rintro e w' ⟨rfl, rfl⟩
      go_wp2_with fail
      (refine (HU.out _).mono ?_); rintro e w' ⟨rfl, rfl⟩
      go_wp2_with fail
      (refine (HC.out _).mono ?_); rintro e w2 ⟨rfl, hb2⟩
      have n2 : (w.alloc (.cells #[.int .i8 30, .int .i64 kids, .int .i64 nn, .string s, .string t, .string u, .int .i64 ln, .int .i64 cl] 60)).cell? ⟨w.heap.size, 2, none⟩ = some (.int .i64 nn) := ((Blk.new w _ _).cell 2).trans rfl
      have hbt2 := HK.out.1.trans (Bt.below hb2)
      have hc2 := HK.out.2.below hb2 (Nat.lt_of_lt_of_le hcl (by simp))
      have hbx := (Blk.new w 60 #[.int .i8 30, .int .i64 kids, .int .i64 nn, .string s, .string t, .string u, .int .i64 ln, .int .i64 cl]).below hb2 (by simp)
      have n2 : w2.cell? ⟨w.heap.size, 2, none⟩ = some (.int .i64 nn) := (hbx.cell 2).trans rfl
      have HFL2 := Lib.hid (fun E => fail_new E x wb A N c a 0 al _ hc2)
      have HK2 := Lib.hid (And.intro hbt2 hc2)
      clear hb2 hbt2 hc2 hbx c2
      go_wp2_with fail
      (refine (HFL2.out 13).mono ?_); rintro e w3 ⟨rfl, h1, h2⟩
      have H := Lib.hid (And.intro h1 h2)
      clear h1 h2
      go_wp2_with fail
      go_end0
      exact AhQ.no (by decide) (HK2.out.1.trans H.out.1) H.out.2

set_option maxRecDepth 100000 in
set_option maxHeartbeats 2000000 in
theorem ah_0 (k : Int) (h2 : ¬ k = 2) (h3 : ¬ k = 3) (h4 : ¬ k = 4) (h21 : ¬ k = 21) (h5 : ¬ k = 5) (h6 : ¬ k = 6) (h30 : ¬ k = 30) : Calls Tryz.prog 83 #[.pointer (some ⟨wb, 0, none⟩), .agg #[.int .i8 k, .int .i64 kids, .int .i64 nn, .string s, .string t, .string u, .int .i64 ln, .int .i64 cl], .int .i64 x, .int .i64 b] w fun e w' => AhQ (0) x wb A N c a al w e w' := by
  obtain ⟨c0, c1, c2, c3, c4⟩ := hc.cells
  have hcl : wb < w.heap.size := hc.lt
  have e30 : (k != 30) = true := by simpa using h30
  have hc1 : Wk (w.alloc (.cells #[.int .i8 k, .int .i64 kids, .int .i64 nn, .string s, .string t, .string u, .int .i64 ln, .int .i64 cl] 60)) wb A N c a 0 0 al := Blk.alloc hc _
  have hbt1 : Bt wb w (w.alloc (.cells #[.int .i8 k, .int .i64 kids, .int .i64 nn, .string s, .string t, .string u, .int .i64 ln, .int .i64 cl] 60)) := Bt.alloc (But.refl _ _) _
  have HFL := Lib.hid (fun E => fail_new E x wb A N c a 0 al _ hc1)
  have HK := Lib.hid (And.intro hbt1 hc1)
  clear hc1 hbt1 hc c0 c1 c3 c4
  go_enter Tryz.func83, Tryz.ntmps83
  go_wp2_with fail
  go_end0
  exact AhQ.ok HK.out.1 HK.out.2
end

theorem ahead_any (n : Tn) (x : Int) (b : Nat) (w : World) (wb : Nat) (A : Option Addr) (N c : Nat) (a : Int) (al : Value) (hs : n.small) (hc : Wk w wb A N c a 0 0 al) : Calls Tryz.prog 83 #[.pointer (some ⟨wb, 0, none⟩), n.val, .int .i64 x, .int .i64 b] w fun e w' => AhQ (wordsE n b) x wb A N c a al w e w' := by
  obtain ⟨kd, kids, nn, s, t, u, ln, cl⟩ := n
  obtain ⟨h1, h2, h3⟩ := hs
  simp only at h1 h2 h3
  unfold wordsE Tn.val
  simp only
  by_cases e2 : kd = 2
  · subst e2; rw [if_pos rfl]; exact ah_2 kids nn s t u ln cl x b w wb A N c a al hc
  rw [if_neg e2]
  by_cases e3 : kd = 3
  · subst e3; rw [if_pos rfl]; exact ah_3 kids nn s t u ln cl x b w wb A N c a al hc
  rw [if_neg e3]
  by_cases e4 : kd = 4
  · subst e4; rw [if_pos rfl]; exact ah_4 kids nn s t u ln cl x b w wb A N c a al hc
  rw [if_neg e4]
  by_cases e21 : kd = 21
  · subst e21; rw [if_pos rfl]; exact ah_21 kids nn s t u ln cl x b w wb A N c a al hc h2
  rw [if_neg e21]
  by_cases e5 : kd = 5
  · subst e5; rw [if_pos (.inl rfl)]; exact ah_5 kids nn s t u ln cl x b w wb A N c a al hc h2 h3
  by_cases e6 : kd = 6
  · subst e6; rw [if_pos (.inr rfl)]; exact ah_6 kids nn s t u ln cl x b w wb A N c a al hc h2 h3
  rw [if_neg (fun h => h.elim e5 e6)]
  by_cases e30 : kd = 30
  · subst e30; rw [if_pos rfl]; exact ah_30 kids nn s t u ln cl x b w wb A N c a al hc h2 h3
  rw [if_neg e30]
  exact ah_0 kids nn s t u ln cl x b w wb A N c a al hc kd e2 e3 e4 e21 e5 e6 e30
end Go.Proofs.YtmagljnlfponaaaGreat.R
