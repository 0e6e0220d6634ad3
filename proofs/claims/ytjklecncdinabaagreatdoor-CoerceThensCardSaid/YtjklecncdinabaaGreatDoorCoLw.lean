/- The law's works. -/
import Derived.Test.YtjklecncdinabaaGreatDoorCoJ
import Derived.Test.YtjklecncdinabaaGreatDoorCoQ
namespace Go.Proofs.YtjklecncdinabaaGreatDoor.C
open Go.RowKit Go.Proofs.YtjklecncdinabaaGreatDoor.B
open Go.Proofs.YtjklecncdinabaaGreatDoor.T (Ty str strV arB co)
set_option linter.unusedVariables false
set_option linter.unusedSimpArgs false

def tA : Ty := .bin 62 (.leaf 105) (.leaf 105)
def tB : Ty := .bin 62 (.leaf 63) (.leaf 63)
def tC : Ty := .bin 62 (.leaf 105) (.leaf 98)
theorem tA_ok : tA.ok := ⟨by decide, by show arB 105 = 0; decide, by show arB 105 = 0; decide⟩
theorem tB_ok : tB.ok := ⟨by decide, by show arB 63 = 0; decide, by show arB 63 = 0; decide⟩
theorem tC_ok : tC.ok := ⟨by decide, by show arB 105 = 0; decide, by show arB 98 = 0; decide⟩
def lW1 : List Nd := [⟨3, 0, false, 62, 0, 0, 0⟩, ⟨2, -5, false, 105, 0, 0, 0⟩, ⟨2, 0, true, 105, 0, 0, 0⟩]
def lW2 : List Nd := [⟨3, 0, false, 62, 0, 0, 0⟩, ⟨2, 0, true, 105, 0, 0, 0⟩, ⟨2, 7, false, 98, 0, 0, 0⟩]
theorem lW1_eq : (mk (ofD tA tB) tA tB 5).list = lW1 := by rfl
theorem lW2_eq : (mk (ofD tB tC) tB tC 7).list = lW2 := by rfl
theorem meet_aa (h : Int) (k : Nat) : meetK h k .any .any = true := by unfold meetK; split <;> (rw [meet_any]; rfl)
theorem then_aa (h : Int) (k : Nat) : thenK h k .any .any = .any := by unfold thenK; split <;> rw [then_any]
theorem thenW : thenL lW1 lW2 = (cW, 0) := by
  have m : meetC (.part 0 false 62 (.part (-5) false 105 .any .any) (.part 0 true 105 .any .any)) (.part 0 false 62 (.part 0 true 105 .any .any) (.part 7 false 98 .any .any)) = true := by
    rw [meet_pp]
    refine .inr ⟨rfl, rfl, ?_, ?_⟩
    · show meetC (.part 0 true 105 .any .any) (.part (-5) false 105 .any .any) = true
      rw [meet_pp]; exact .inr ⟨by decide, rfl, meet_aa _ _, meet_aa _ _⟩
    · show meetC (.part 0 true 105 .any .any) (.part 7 false 98 .any .any) = true
      rw [meet_pp]; exact .inl ⟨rfl, by decide, by decide⟩
  have e : thenC (.part 0 false 62 (.part (-5) false 105 .any .any) (.part 0 true 105 .any .any)) (.part 0 false 62 (.part 0 true 105 .any .any) (.part 7 false 98 .any .any)) = .part 0 false 62 (.part 0 false 105 .any .any) (.fail 0 7 105 98) := by
    rw [then_pp, if_neg (by decide)]
    have e0 : thenK 62 0 (.part (-5) false 105 .any .any) (.part 0 true 105 .any .any) = .part 0 false 105 .any .any := by
      show thenC (.part 0 true 105 .any .any) (.part (-5) false 105 .any .any) = _
      rw [then_pp, if_neg (by decide), then_aa, then_aa]
    have e1 : thenK 62 1 (.part 0 true 105 .any .any) (.part 7 false 98 .any .any) = .fail 0 7 105 98 := by
      show thenC (.part 0 true 105 .any .any) (.part 7 false 98 .any .any) = _
      rw [then_pp, if_pos (by decide)]
    rw [e0, e1]
  unfold thenL
  rw [show treeC lW1 = some (.part 0 false 62 (.part (-5) false 105 .any .any) (.part 0 true 105 .any .any)) from rfl, show treeC lW2 = some (.part 0 false 62 (.part 0 true 105 .any .any) (.part 7 false 98 .any .any)) from rfl]
  simp only
  rw [if_pos m, e]; rfl

theorem own_LN {w : World} {base n c : Nat} {l : List Nd} {A : Option Addr} (h : w.ownsRow base 28 7 (.slice A n c) n (nds l)) (hn : n = l.length) : LN w A l := by
  subst hn; exact own_sl h

set_option maxHeartbeats 1000000 in
theorem works_any (w : World) : Calls Tryz.prog 5 #[] w fun e w' => e = .returned (.bool true) ∧ Below w.heap.size w w' := by
  have h1 : ∀ W, Calls Tryz.prog 16 #[.string ⟨#[62, 105, 105]⟩, .string ⟨#[62, 63, 63]⟩, .int .i64 5] W fun e w' => OfR lW1 0 W e w' := fun W =>
    lW1_eq ▸ Of_yes tA tB 5 W tA_ok tB_ok (by decide) (by decide) (by rfl) (by decide) (by rw [lW1_eq]; decide)
  have h2 : ∀ W, Calls Tryz.prog 16 #[.string ⟨#[62, 63, 63]⟩, .string ⟨#[62, 105, 98]⟩, .int .i64 7] W fun e w' => OfR lW2 0 W e w' := fun W =>
    lW2_eq ▸ Of_yes tB tC 7 W tB_ok tC_ok (by decide) (by decide) (by rfl) (by decide) (by rw [lW2_eq]; decide)
  have H1 := Lib.hid h1
  have H2 := Lib.hid h2
  clear h1 h2
  go_enter Tryz.func5, Tryz.ntmps5
  go_wp2_with fail
  (refine (H1.out _).mono ?_); rintro ev w1 ⟨V1, rfl, ho1, hb1⟩
  obtain ⟨A1, c1, rfl, hc1, hc1m⟩ := own_shape ho1
  have HO1 := Lib.hid ho1
  clear ho1
  go_wp2_with fail
  (refine (H2.out _).mono ?_); rintro ev w2 ⟨V2, rfl, ho2, hb2⟩
  obtain ⟨A2, c2, rfl, hc2, hc2m⟩ := own_shape ho2
  have h3 := Then_any lW1 lW2 A1 A2 c1 c2 w2 hc1 hc1m (own_LN (own_below HO1.out hb2) rfl) hc2 hc2m (own_LN ho2 rfl) (by decide)
  rw [thenW] at h3
  have HB := Lib.hid (bl hb1 hb2)
  clear ho2 hb1 hb2
  go_wp2_with fail
  (refine h3.mono ?_); rintro ev w3 ⟨V3, rfl, ho3, hb3⟩
  clear h3
  obtain ⟨A3, c3, rfl, hc3, hc3m⟩ := own_shape ho3
  have h4 := text_works A3 c3 w3 hc3 hc3m (own_LN ho3 rfl)
  have HB3 := Lib.hid (bl HB.out hb3)
  clear ho3 hb3
  go_wp2_with fail
  (refine h4.mono ?_); rintro ev w4 ⟨rfl, hb4⟩
  clear h4
  go_wp2_with fail
  go_ret
  exact ⟨rfl, bl HB3.out hb4⟩
end Go.Proofs.YtjklecncdinabaaGreatDoor.C
