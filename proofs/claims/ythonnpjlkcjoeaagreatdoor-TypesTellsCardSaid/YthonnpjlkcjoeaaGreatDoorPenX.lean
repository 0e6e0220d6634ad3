/- Contract of the program's Words. -/
import Derived.Test.YthonnpjlkcjoeaaGreatDoorPenW
import Derived.Test.YthonnpjlkcjoeaaGreatDoorRdV
namespace Go.Proofs.YthonnpjlkcjoeaaGreatDoor.T
open Go.RowKit Go.Proofs.YthonnpjlkcjoeaaGreatDoor.B
set_option linter.unusedSimpArgs false
set_option linter.unusedVariables false

theorem PenC.to {f : Nat} {t : Ty} {x y : List UInt8} (h : PenC f t x) (e : x = y) : PenC f t y := e ▸ h
theorem pen_any (t : Ty) : t.ok → t.code.length ≤ 1099511627776 → PenC 29 t (wordsT t) := by
  induction t with
  | leaf h =>
    intro ht h64
    rcases leaf_cases ht with rfl | rfl | rfl | rfl
    · exact pen_int _ ht h64 rfl rfl
    · exact pen_bool _ ht h64 rfl rfl
    · exact pen_text _ ht h64 rfl rfl
    · exact pen_any_ _ ht h64 rfl rfl
  | un h a ih =>
    intro ht h64
    have hl : a.code.length + 1 ≤ 1099511627776 := h64
    have ia := ih ht.2 (by omega)
    rcases un_cases ht with rfl | rfl
    · refine (pen_list _ a ht h64 rfl rfl ia).to ?_
      simp [wordsT]
    · refine (pen_box _ a ht h64 rfl rfl (pen_arm a ia)).to ?_
      simp [wordsT, wrapT, wX]
  | bin h a b iha ihb =>
    intro ht h64
    have hl : (a.code ++ b.code).length + 1 ≤ 1099511627776 := h64
    rw [List.length_append] at hl
    have ia := iha ht.2.1 (by omega)
    have ib := ihb ht.2.2 (by omega)
    rcases bin_cases ht with rfl | rfl
    · refine (pen_fn _ a b ht h64 rfl rfl (pen_arm a ia) ib).to ?_
      simp [wordsT, wrapT]
    · refine (pen_pair _ a b ht h64 rfl rfl ia ib).to ?_
      simp [wordsT]

theorem wordsT_len (t : Ty) : 0 < (wordsT t).length ∧ (wordsT t).length ≤ 16 * t.code.length := by
  induction t with
  | leaf h =>
    unfold wordsT Ty.code
    split
    · exact ⟨by decide, show 3 ≤ 16 by decide⟩
    · split
      · exact ⟨by decide, show 4 ≤ 16 by decide⟩
      · split
        · exact ⟨by decide, show 4 ≤ 16 by decide⟩
        · exact ⟨by decide, show 1 ≤ 16 by decide⟩
  | un h a ih =>
    unfold wordsT Ty.code
    split
    · simp; omega
    · unfold parW
      split <;> simp [wX] <;> omega
  | bin h a b iha ihb =>
    unfold wordsT Ty.code
    split
    · unfold parW
      split <;> simp <;> omega
    · simp; omega

set_option maxRecDepth 100000 in
theorem Words_yes (t : Ty) (w : World) (ht : t.ok) (h64 : t.code.length ≤ 64) :
    Calls Tryz.prog 9 #[.string (str t)] w fun e w' => e = .returned (.tuple #[.string (bs (wordsT t)), .int .i64 0]) ∧ Below w.heap.size w w' := by
  have hC := check_any (str t) w (by simp [str]; omega)
  rw [show (str t).data.toList = t.code by rw [str, bs_list], check_code ht h64] at hC
  have hw := wordsT_len t
  have h0 : St w.heap.size w.heap.size [] (w.alloc (.cells #[.pointer none, .slice none 0 0] 66)) (w.alloc (.cells #[.pointer none, .slice none 0 0] 66)) :=
    ⟨.inl ⟨Nat.le_refl _, _, heap_alloc_new w _, World.ownsRow_nil _ _ _ _, by simp [Value.ownBlock]⟩, Below.refl _ _, Lib.OthersKept.refl _ _ _, by rw [alloc_size]; omega⟩
  have hP := pen_any t ht (by omega) _ _ _ _ h0 (by simp only [List.length_nil]; omega)
  have hne : wordsT t ≠ [] := by intro e; rw [e] at hw; exact absurd hw.1 (by decide)
  rw [List.nil_append] at hP
  generalize wordsT t = x at *
  generalize str t = s at *
  have HC := Lib.hid hC
  have HP := Lib.hid hP
  have HB : Hid (Below w.heap.size w (w.alloc (.cells #[.pointer none, .slice none 0 0] 66))) := Lib.hid ((Below.refl _ _).alloc (Nat.le_refl _) _)
  clear hC hP h0 ht h64 hw
  go_enter Tryz.func9, Tryz.ntmps9
  go_wp2_with fail
  refine HC.out.mono ?_
  rintro e w' ⟨rfl, rfl⟩
  go_wp2_with fail
  refine HP.out.mono ?_
  rintro e w2 ⟨rfl, S⟩
  have HS := Lib.hid (pen_string _ _ x w2 S.at_ hne)
  have HB2 := Lib.hid (HB.out.trans S.below)
  clear S HP HB
  go_wp2_with fail
  refine HS.out.mono ?_
  rintro e w3 ⟨rfl, hb3⟩
  have HB3 := Lib.hid (HB2.out.trans hb3)
  clear hb3 HS HB2
  go_wp2_with fail
  go_ret2
  exact ⟨rfl, HB3.out⟩
theorem Words_no (s : ByteArray) (w : World) (hs : s.size ≤ 4611686018427387904) (h : isB s = false) :
    Calls Tryz.prog 9 #[.string s] w fun e w' => e = .returned (.tuple #[.string ⟨#[]⟩, .int .i64 (checkL s.data.toList).1]) ∧ w = w' := by
  have hC := check_any s w hs
  have t1 : (((checkL s.data.toList).1 : Int) != 0) = true := by unfold isB at h; simpa using h
  generalize (checkL s.data.toList).1 = E at *
  have HC := Lib.hid hC
  clear hC h hs
  go_enter Tryz.func9, Tryz.ntmps9
  go_wp2_with fail
  refine HC.out.mono ?_
  rintro e w' ⟨rfl, rfl⟩
  go_wp2_with fail
  go_ret2
  exact ⟨rfl, rfl⟩
end Go.Proofs.YthonnpjlkcjoeaaGreatDoor.T
