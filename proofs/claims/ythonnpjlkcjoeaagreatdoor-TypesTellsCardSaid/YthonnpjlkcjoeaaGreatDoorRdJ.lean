/- Contract: strings.ContainsRune of the tokens of one byte, at every rune. -/
import Derived.Test.YthonnpjlkcjoeaaGreatDoorRdH
import Derived.Test.YthonnpjlkcjoeaaGreatDoorShelf
import Derived.Laws.Runes
import Derived.Laws.RangeString
import Derived.Lib.IndexAny
namespace Go.Proofs.YthonnpjlkcjoeaaGreatDoor.T
open Go.RowKit Go.Proofs.YthonnpjlkcjoeaaGreatDoor.B
set_option linter.unusedSimpArgs false
set_option linter.unusedVariables false

def punctI (r : Int) : Bool := r == 63 || r == 40 || r == 41 || r == 44 || r == 91 || r == 93
abbrev pS : ByteArray := ⟨#[63, 40, 41, 44, 91, 93]⟩

theorem punctI_low : ∀ n : Fin 128, decide (0 ≤ Lib.indexByte pS.data.toList ((n.val : Int).toNat.toUInt8)) = punctI (n.val : Int) := by decide +kernel
theorem noHigh : ∀ n : Fin 256, 128 ≤ n.val → Lib.indexByte pS.data.toList ((n.val : Int).toNat.toUInt8) = -1 ∧ ∀ k : Fin 7, Lib.indexByte (pS.data.toList.drop k.val) ((n.val : Int).toNat.toUInt8) = -1 := by decide +kernel
theorem pS_low : ∀ k : Fin 6, (pS[k.val]'(by have := k.2; show k.val < 6; omega)).toNat < 128 := by decide +kernel

set_option maxRecDepth 100000 in
set_option maxHeartbeats 1000000 in
theorem indexRune_err (w : World) : Calls Tryz.prog 86 #[.string pS, .int .i32 65533] w fun e w' => e = .returned (.int .i64 (-1)) ∧ Below w.heap.size w w' := by
  go_enter Tryz.func86, Tryz.ntmps86
  go_wp2_with fail
  go_loopw [] (fun wr => ∃ pos : Nat, pos ≤ 6 ∧ wr = w.iter pS pos) (fun wr => 6 - wr.iterPos w.heap.size)
  case atStart => exact ⟨0, by omega, rfl⟩
  case round =>
    obtain ⟨pos, hp, rfl⟩ := hrel
    by_cases hlt : pos < 6
    · have hlt2 : pos < pS.size := hlt
      have hlo := pS_low ⟨pos, hlt⟩
      have hnx : ∀ ty, (Instr.next (.pointer (some ⟨w.heap.size, 0, none⟩)) true ty).run Tryz.prog (w.iter pS pos) = _ := fun ty => run_next_ascii w pS pos ty hlt2 hlo
      have hne : (((pS[pos]'hlt2).toNat : Int) == 65533) = false := by simp only [beq_eq_false_iff_ne]; intro e; have : (pS[pos]'hlt2).toNat < 128 := hlo; omega
      generalize (pS[pos]'hlt2).toNat = n at *
      go_wp2_with fail
      go_roundw
      case rel => exact ⟨pos + 1, by omega, rfl⟩
      case measure => simp; omega
    · obtain rfl : pos = 6 := by omega
      have hnx : ∀ ty, (Instr.next (.pointer (some ⟨w.heap.size, 0, none⟩)) true ty).run Tryz.prog (w.iter pS 6) = _ := fun ty => run_next_end w pS 6 ty (by show ¬ 6 < 6; omega)
      go_wp2_with fail
      go_ret
      exact ⟨rfl, bal (Below.refl _ _) _⟩

theorem valid_iff (r : Int) : Lib.validRune r = Utf8.valid r := by
  unfold Lib.validRune Utf8.valid
  rw [Bool.eq_iff_iff]; simp <;> omega

set_option maxRecDepth 100000 in
set_option maxHeartbeats 1000000 in
theorem indexRune_high (r : Int) (w : World) (h0 : 128 ≤ r) (h1 : r ≤ 2147483647) (h2 : (r == 65533) = false) : Calls Tryz.prog 86 #[.string pS, .int .i32 r] w fun e w' => e = .returned (.int .i64 (-1)) ∧ Below w.heap.size w w' := by
  have hv := fun W => Tryz.utf8_ValidRune r W
  have hlt : ¬ r < 128 := by omega
  cases hb : Lib.validRune r
  · rw [hb] at hv
    clear hb
    go_enter Tryz.func86, Tryz.ntmps86
    go_wp2_with fail
    refine (hv _).mono ?_
    rintro e w' ⟨rfl, rfl⟩
    go_wp2_with fail
    go_ret
    exact ⟨rfl, Below.refl _ _⟩
  · rw [hb] at hv
    rw [valid_iff] at hb
    obtain ⟨e1, e2, e3⟩ := encode_facts r hb h0
    have hlast := e3 (by omega)
    obtain ⟨rs, hrs⟩ : ∃ rs, Utf8.encode r = rs := ⟨_, rfl⟩
    have key : ∃ (n : Nat) (b : UInt8), (n = 1 ∨ n = 2 ∨ n = 3) ∧ rs.size = n + 1 ∧ (∃ h : n < rs.size, rs[n]'h = b) ∧ 128 ≤ b.toNat := by
      subst hrs
      refine ⟨(Utf8.encode r).size - 1, _, by omega, by omega, ⟨by omega, rfl⟩, hlast⟩
    clear e1 e2 e3 hlast hb
    obtain ⟨n, b, hn, hsz, ⟨hlt2, hbt⟩, h128⟩ := key
    have hne : ∀ c : Int, 0 ≤ c → c < 128 → (c != (b.toNat : Int)) = true := fun c h0 h1 => by simp; omega
    have hix := noHigh ⟨b.toNat, b.toNat_lt⟩ h128
    rcases hn with rfl | rfl | rfl
    · have hne1 := hne 40 (by omega) (by omega)
      have hne2 : (((pS[1]'(by decide)).toNat : Int) != (b.toNat : Int)) = true := hne1
      have hx := (hix.2 ⟨2, by omega⟩)
      have hsl : pS.extract 2 pS.size = bs (pS.data.toList.drop 2) := by rw [extract_bs]; rfl
      have hIB : ∀ W, Calls Tryz.prog 95 #[.string (bs (pS.data.toList.drop 2)), .int .u8 b.toNat] W fun e w' => e = .returned (.int .i64 (-1)) ∧ w' = W := fun W => by
        have := Tryz.strings_IndexByte (bs (pS.data.toList.drop 2)) b.toNat W
        rw [bs_list, hx] at this
        exact this
      have HIB := Lib.hid hIB
      clear hix hne hx hIB
      go_enter Tryz.func86, Tryz.ntmps86
      go_wp2_with fail
      refine (hv _).mono ?_
      rintro e w' ⟨rfl, rfl⟩
      go_wp2_with fail
      go_step3
      go_wp2_with fail
      refine wp_loop_rounds 1 ?_
      rw [rounds_succ]
      go_wp2_with fail
      go_step3
      go_wp2_with fail
      go_quiet (fail)
      obtain ⟨w2, hw2⟩ : ∃ w2, w'.drewN nq = w2 := ⟨_, rfl⟩
      rw [hw2]
      have HW2 := Lib.hid hw2
      clear hw2
      go_wp2_with fail
      go_quiet ((go_at_call 95; refine Calls.quiet_of_same (HIB.out _)))
      go_wp2_with fail
      simp only [Exit.inBlock, Exit.then, Exit.noGoto_ret]
      go_ret
      rw [← HW2.out]
      exact ⟨rfl, below_drewN (below_drewN (Below.refl _ _) _) _⟩
    · have hne1 := hne 41 (by omega) (by omega)
      have hne2 : (((pS[2]'(by decide)).toNat : Int) != (b.toNat : Int)) = true := hne1
      have hx := (hix.2 ⟨3, by omega⟩)
      have hsl : pS.extract 3 pS.size = bs (pS.data.toList.drop 3) := by rw [extract_bs]; rfl
      have hIB : ∀ W, Calls Tryz.prog 95 #[.string (bs (pS.data.toList.drop 3)), .int .u8 b.toNat] W fun e w' => e = .returned (.int .i64 (-1)) ∧ w' = W := fun W => by
        have := Tryz.strings_IndexByte (bs (pS.data.toList.drop 3)) b.toNat W
        rw [bs_list, hx] at this
        exact this
      have HIB := Lib.hid hIB
      clear hix hne hx hIB
      go_enter Tryz.func86, Tryz.ntmps86
      go_wp2_with fail
      refine (hv _).mono ?_
      rintro e w' ⟨rfl, rfl⟩
      go_wp2_with fail
      go_step3
      go_wp2_with fail
      refine wp_loop_rounds 1 ?_
      rw [rounds_succ]
      go_wp2_with fail
      go_step3
      go_wp2_with fail
      go_quiet (fail)
      obtain ⟨w2, hw2⟩ : ∃ w2, w'.drewN nq = w2 := ⟨_, rfl⟩
      rw [hw2]
      have HW2 := Lib.hid hw2
      clear hw2
      go_wp2_with fail
      go_quiet ((go_at_call 95; refine Calls.quiet_of_same (HIB.out _)))
      go_wp2_with fail
      simp only [Exit.inBlock, Exit.then, Exit.noGoto_ret]
      go_ret
      rw [← HW2.out]
      exact ⟨rfl, below_drewN (below_drewN (Below.refl _ _) _) _⟩
    · have hne1 := hne 44 (by omega) (by omega)
      have hne2 : (((pS[3]'(by decide)).toNat : Int) != (b.toNat : Int)) = true := hne1
      have hx := (hix.2 ⟨4, by omega⟩)
      have hsl : pS.extract 4 pS.size = bs (pS.data.toList.drop 4) := by rw [extract_bs]; rfl
      have hIB : ∀ W, Calls Tryz.prog 95 #[.string (bs (pS.data.toList.drop 4)), .int .u8 b.toNat] W fun e w' => e = .returned (.int .i64 (-1)) ∧ w' = W := fun W => by
        have := Tryz.strings_IndexByte (bs (pS.data.toList.drop 4)) b.toNat W
        rw [bs_list, hx] at this
        exact this
      have HIB := Lib.hid hIB
      clear hix hne hx hIB
      go_enter Tryz.func86, Tryz.ntmps86
      go_wp2_with fail
      refine (hv _).mono ?_
      rintro e w' ⟨rfl, rfl⟩
      go_wp2_with fail
      go_step3
      go_wp2_with fail
      refine wp_loop_rounds 1 ?_
      rw [rounds_succ]
      go_wp2_with fail
      go_step3
      go_wp2_with fail
      go_quiet (fail)
      obtain ⟨w2, hw2⟩ : ∃ w2, w'.drewN nq = w2 := ⟨_, rfl⟩
      rw [hw2]
      have HW2 := Lib.hid hw2
      clear hw2
      go_wp2_with fail
      go_quiet ((go_at_call 95; refine Calls.quiet_of_same (HIB.out _)))
      go_wp2_with fail
      simp only [Exit.inBlock, Exit.then, Exit.noGoto_ret]
      go_ret
      rw [← HW2.out]
      exact ⟨rfl, below_drewN (below_drewN (Below.refl _ _) _) _⟩

/-- Is a rune a token of its own? -/
theorem contains_any (r : Nat) (w : World) (h : r ≤ 2147483647) : Calls Tryz.prog 75 #[.string pS, .int .i32 r] w fun e w' => e = .returned (.bool (punctI r)) ∧ Below w.heap.size w w' := by
  by_cases hlo : r < 128
  · have hc := Tryz.strings_ContainsRune_ascii pS r w (by omega) (by omega)
    have e := punctI_low ⟨r, hlo⟩
    rw [e] at hc
    exact hc.mono fun e w' ⟨h1, h2⟩ => ⟨h1, by rw [h2]; exact Below.refl _ _⟩
  · have hp : punctI r = false := by unfold punctI; simp; omega
    rw [hp]
    clear hp
    have hi : Calls Tryz.prog 86 #[.string pS, .int .i32 r] w fun e w' => e = .returned (.int .i64 (-1)) ∧ Below w.heap.size w w' := by
      by_cases he : r = 65533
      · subst he; exact indexRune_err w
      · exact indexRune_high r w (by omega) (by omega) (by simp; omega)
    have HI := Lib.hid hi
    clear hi
    go_enter Tryz.func75, Tryz.ntmps75
    go_wp2_with fail
    refine HI.out.mono ?_
    rintro e w' ⟨rfl, hb⟩
    go_wp2_with fail
    go_ret
    exact ⟨rfl, hb⟩
end Go.Proofs.YthonnpjlkcjoeaaGreatDoor.T
