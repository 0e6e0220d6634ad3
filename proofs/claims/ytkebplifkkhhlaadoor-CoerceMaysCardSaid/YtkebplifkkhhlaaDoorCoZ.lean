/- Contract: coerce.Fits. -/
import Derived.Test.YtkebplifkkhhlaaDoorCoY
import Derived.Test.YtkebplifkkhhlaaDoorCoI
namespace Go.Proofs.YtkebplifkkhhlaaDoor.C
open Go.RowKit Go.Proofs.YtkebplifkkhhlaaDoor.B
open Go.Proofs.YtkebplifkkhhlaaDoor.T (Ty str strV isB isB_str isB_iff)
set_option linter.unusedVariables false
set_option linter.unusedSimpArgs false

theorem fits_callW (t : Co) : ∀ (v : Value) (C : Nat → Prop) (S T : Ty) (w : World), okC t → VCo w C t v → S.ok → T.ok → S.code.length ≤ 64 → T.code.length ≤ 64 →
    Calls Tryd.prog 102 #[v, .string (str S), .string (str T)] w fun e w' => e = .returned (.bool (goesC t S T)) ∧ Below w.heap.size w w' := by
  induction t with
  | any =>
    intro v C S T w ho hv hS hT hS64 hT64
    simp only [VCo] at hv
    subst hv
    exact fits_anyW S T w hS hT
  | fail p l f q =>
    intro v C S T w ho hv hS hT hS64 hT64
    simp only [VCo] at hv
    subst hv
    exact fits_failW p l f q S T w ho hS hT hS64
  | part p j hh a b iha ihb =>
    intro v C S T w ho hv hS hT hS64 hT64
    simp only [VCo] at hv
    obtain ⟨A, c, va, vb, rfl, h1, h2, hk, hva, hvb⟩ := hv
    refine fits_partW p j hh a b A (opsN hh) c va vb C S T w (okC_head ho) rfl h1 h2 hk hva hvb hS hT hS64 hT64 ?_
    intro m v S T W hv hS hT hS64 hT64
    obtain ⟨hok, _⟩ := kid_ok ho m
    revert hv hok
    unfold kidT
    split
    · exact fun hv hok => iha v C S T W hok hv hS hT hS64 hT64
    · exact fun hv hok => ihb v C S T W hok hv hS hT hS64 hT64

/-- What Fits answers. -/
def GX (l : List Nd) (x y : ByteArray) (b : Bool) : Prop := (treeC l = none ∧ b = false) ∨ ∃ t, treeC l = some t ∧ ((isB x = false ∧ b = false) ∨ (isB x = true ∧ isB y = false ∧ b = false) ∨ (isB x = true ∧ isB y = true ∧ ∃ S T : Ty, x = str S ∧ y = str T ∧ S.ok ∧ T.ok ∧ S.code.length ≤ 64 ∧ T.code.length ≤ 64 ∧ b = goesC t S T))
theorem GX.is (l : List Nd) (x y : ByteArray) : ∃ b, GX l x y b := by
  rcases h : treeC l with _ | t
  · exact ⟨false, .inl ⟨h, rfl⟩⟩
  · cases hx : isB x
    · exact ⟨false, .inr ⟨t, h, .inl ⟨hx, rfl⟩⟩⟩
    · cases hy : isB y
      · exact ⟨false, .inr ⟨t, h, .inr (.inl ⟨hx, hy, rfl⟩)⟩⟩
      · obtain ⟨S, hS, e1, h1⟩ := isB_iff.1 hx
        obtain ⟨T, hT, e2, h2⟩ := isB_iff.1 hy
        exact ⟨goesC t S T, .inr ⟨t, h, .inr (.inr ⟨hx, hy, S, T, e1, e2, hS, hT, h1, h2, rfl⟩)⟩⟩

theorem Fits_any (l : List Nd) (A : Option Addr) (c : Nat) (x y : ByteArray) (b : Bool) (w : World) (hl : l.length ≤ c) (hc : c ≤ maxLen) (hA : LN w A l) (hx : x.size ≤ 4611686018427387904) (hy : y.size ≤ 4611686018427387904) (hg : GX l x y b) :
    Calls Tryd.prog 53 #[.slice A l.length c, .string x, .string y] w fun e w' => e = .returned (.bool b) ∧ Below w.heap.size w w' := by
  have h := tree_any l A c w hl hc hA
  have g1 := fun W => good_any x W hx
  have g2 := fun W => good_any y W hy
  have HG1 := Lib.hid g1
  have HG2 := Lib.hid g2
  clear hA hl hc g1 g2 hx hy
  rcases hg with ⟨h0, rfl⟩ | ⟨t, h0, hg⟩
  · rw [h0] at h
    clear h0
    go_enter Tryd.func53, Tryd.ntmps53
    go_wp2_with fail
    (refine h.mono ?_); rintro ev w1 ⟨hb, hq⟩
    obtain ⟨v, rfl⟩ := hq
    go_wp2_with fail
    go_ret
    exact ⟨rfl, hb⟩
  · have hok := (treeC_some h0).2.1
    rw [h0] at h
    clear h0
    rcases hg with ⟨h1, rfl⟩ | ⟨h1, h2, rfl⟩ | ⟨h1, h2, S, T, rfl, rfl, hS, hT, hS64, hT64, rfl⟩
    · rw [h1] at HG1
      clear h1
      go_enter Tryd.func53, Tryd.ntmps53
      go_wp2_with fail
      (refine h.mono ?_); rintro ev w1 ⟨hb, hq⟩
      obtain ⟨v, rfl, hv⟩ := hq
      clear hv
      go_wp2_with fail
      (refine (HG1.out _).mono ?_); rintro ev w2 ⟨rfl, rfl⟩
      go_wp2_with fail
      go_ret
      exact ⟨rfl, hb⟩
    · rw [h1] at HG1
      rw [h2] at HG2
      clear h1 h2
      go_enter Tryd.func53, Tryd.ntmps53
      go_wp2_with fail
      (refine h.mono ?_); rintro ev w1 ⟨hb, hq⟩
      obtain ⟨v, rfl, hv⟩ := hq
      clear hv
      go_wp2_with fail
      (refine (HG1.out _).mono ?_); rintro ev w2 ⟨rfl, rfl⟩
      go_wp2_with fail
      (refine (HG2.out _).mono ?_); rintro ev w2 ⟨rfl, rfl⟩
      go_wp2_with fail
      go_ret
      exact ⟨rfl, hb⟩
    · rw [h1] at HG1
      rw [h2] at HG2
      have hcall := fun v C w hv => fits_callW t v C S T w hok hv hS hT hS64 hT64
      obtain ⟨H, hH⟩ : ∃ H, goesC t S T = H := ⟨_, rfl⟩
      rw [hH] at hcall ⊢
      have HF := Lib.hid hcall
      clear h1 h2 hcall hH hS hT hS64 hT64
      generalize str S = x at *
      generalize str T = y at *
      go_enter Tryd.func53, Tryd.ntmps53
      go_wp2_with fail
      (refine h.mono ?_); rintro ev w1 ⟨hb, hq⟩
      clear h
      obtain ⟨v, rfl, hv⟩ := hq
      have hcall := HF.out v _ w1 hv
      clear hv
      go_wp2_with fail
      (refine (HG1.out _).mono ?_); rintro ev w2 ⟨rfl, rfl⟩
      go_wp2_with fail
      (refine (HG2.out _).mono ?_); rintro ev w2 ⟨rfl, rfl⟩
      go_wp2_with fail
      (refine hcall.mono ?_); rintro ev w2 ⟨rfl, hb2⟩
      go_wp2_with fail
      go_ret
      exact ⟨rfl, bl hb hb2⟩
end Go.Proofs.YtkebplifkkhhlaaDoor.C
