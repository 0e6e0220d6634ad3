/- Contracts: relate.Consistent, relate.Precise. (printed by cutref.py out of XRelC.) -/
import Derived.Test.YtjklecncdinabaaGreatDoorReB
import Derived.Laws.EntriesVeiled
namespace Go.Proofs.YtjklecncdinabaaGreatDoor.T
open Go.RowKit Go.Proofs.YtjklecncdinabaaGreatDoor.B
set_option linter.unusedSimpArgs false
set_option linter.unusedVariables false

theorem str_q {t : Ty} (ht : t.ok) : ((str t).toList == [63]) = (t.head == 63) := by
  rw [Lib.toList_data, str, bs_list, Bool.eq_iff_iff]
  simp only [beq_iff_eq]
  constructor
  · intro h
    have := Ty.code_head t
    rw [h] at this
    exact (Option.some.inj this).symm
  · intro h
    rw [head63 ht h]; rfl

theorem byte_neq (a b : UInt8) : ((a.toNat : Int) != (b.toNat : Int)) = (a != b) := by
  rw [Bool.eq_iff_iff]
  simp only [bne_iff_ne, ne_eq, Int.natCast_inj, UInt8.toNat_inj]
theorem byte_eq (a b : UInt8) : ((a.toNat : Int) == (b.toNat : Int)) = (a == b) := by
  rw [Bool.eq_iff_iff]
  simp only [beq_iff_eq, Int.natCast_inj, UInt8.toNat_inj]

theorem askC_any (S T : Ty) (w : World) (hS : S.ok) (hT : T.ok) : Calls Tryz.prog 67 #[.string (str S), .string (str T)] w fun e w' => e = .returned (.int .i64 (askC S T)) ∧ ∃ n, w' = w.drewN n := by
  obtain ⟨p1, e1⟩ := str_head S
  obtain ⟨p2, e2⟩ := str_head T
  have q1 := str_q hS
  have q2 := str_q hT
  unfold askC
  generalize S.head = a at *
  generalize T.head = b at *
  generalize str S = s at *
  generalize str T = t at *
  clear hS hT S T
  have hb := byte_neq a b
  by_cases ha : a = 63
  · rw [if_pos (.inl ha)]
    rw [ha] at q1
    have q1' : (s.toList == [63]) = true := q1
    clear e1 e2 q1 q2 hb ha
    go_enter Tryz.func67, Tryz.ntmps67
    go_wp2_with fail
    go_ret
    exact ⟨rfl, 0, rfl⟩
  · have q1' : (s.toList == [63]) = false := by rw [q1]; simpa using ha
    by_cases hb63 : b = 63
    · rw [if_pos (.inr hb63)]
      rw [hb63] at q2
      have q2' : (t.toList == [63]) = true := q2
      clear e1 e2 q1 q2 hb ha hb63
      go_enter Tryz.func67, Tryz.ntmps67
      go_wp2_with fail
      go_ret
      exact ⟨rfl, 0, rfl⟩
    · have q2' : (t.toList == [63]) = false := by rw [q2]; simpa using hb63
      rw [if_neg (by intro h; rcases h with h | h; exact ha h; exact hb63 h)]
      by_cases hab : a = b
      · have hb' : ((a.toNat : Int) != (b.toNat : Int)) = false := by rw [hb]; simpa using hab
        rw [if_pos hab]
        clear q1 q2 hb ha hb63 hab
        go_enter Tryz.func67, Tryz.ntmps67
        go_wp2_with fail
        go_quiet (fail)
        go_wp2_with fail
        go_ret
        exact ⟨rfl, _, rfl⟩
      · have hb' : ((a.toNat : Int) != (b.toNat : Int)) = true := by rw [hb]; simpa using hab
        rw [if_neg hab]
        clear q1 q2 hb ha hb63 hab
        go_enter Tryz.func67, Tryz.ntmps67
        go_wp2_with fail
        go_quiet (fail)
        go_wp2_with fail
        go_ret
        exact ⟨rfl, _, rfl⟩

theorem Cons_no (s t : ByteArray) (w : World) (hs : s.size ≤ 4611686018427387904) (ht : t.size ≤ 4611686018427387904) (h : isB s = false ∨ isB t = false) :
    Calls Tryz.prog 47 #[.string s, .string t] w fun e w' => e = .returned (.bool false) ∧ Below w.heap.size w w' := by
  have h1 := fun W => isRel_any s W hs
  have h2 := fun W => isRel_any t W ht
  have hall : ∀ W, Calls Tryz.prog 66 #[.string s, .string t, .func (.func 67) #[] #[]] W fun e w' => e = .returned (.bool false) ∧ Below W.heap.size W w' := by
    intro W
    by_cases hb : isB s = true
    · rw [hb] at h1 h
      rw [h.resolve_left (by simp)] at h2
      clear h hb
      go_enter Tryz.func66, Tryz.ntmps66
      go_wp2_with fail
      refine (h1 _).mono ?_
      rintro e w' ⟨rfl, rfl⟩
      go_wp2_with fail
      refine (h2 _).mono ?_
      rintro e w' ⟨rfl, rfl⟩
      go_wp2_with fail
      go_ret
      exact ⟨rfl, bal (bal b0 _) _⟩
    · have hb' : isB s = false := by simpa using hb
      rw [hb'] at h1
      clear h hb hb' h2
      go_enter Tryz.func66, Tryz.ntmps66
      go_wp2_with fail
      refine (h1 _).mono ?_
      rintro e w' ⟨rfl, rfl⟩
      go_wp2_with fail
      go_ret
      exact ⟨rfl, bal (bal b0 _) _⟩
  clear h h1 h2
  go_enter Tryz.func47, Tryz.ntmps47
  go_wp2_with (go_at_call 66; refine (hall _).mono ?_; rintro e w1 ⟨rfl, hb⟩)
  go_ret
  exact ⟨rfl, hb⟩

theorem Cons_yes (S T : Ty) (w : World) (hS : S.ok) (hT : T.ok) (hS64 : S.code.length ≤ 64) (hT64 : T.code.length ≤ 64) :
    Calls Tryz.prog 47 #[.string (str S), .string (str T)] w fun e w' => e = .returned (.bool (allT askC S T)) ∧ Below w.heap.size w w' := by
  have h1 := fun W => isRel_any (str S) W (by simp [str]; omega)
  have h2 := fun W => isRel_any (str T) W (by simp [str]; omega)
  rw [isB_str hS hS64] at h1
  rw [isB_str hT hT64] at h2
  have hw := fun b5 b7 W => walk_any askC askC_asks askC_any b5 b7 64 S T W hS64 hS hT hS64 hT64
  generalize allT askC S T = r at *
  generalize str S = s at *
  generalize str T = t at *
  have HW := Lib.hid hw
  clear hw
  have hall : ∀ W, Calls Tryz.prog 66 #[.string s, .string t, .func (.func 67) #[] #[]] W fun e w' => e = .returned (.bool r) ∧ Below W.heap.size W w' := by
    intro W
    go_enter Tryz.func66, Tryz.ntmps66
    go_wp2_with fail
    refine (h1 _).mono ?_
    rintro e w' ⟨rfl, rfl⟩
    go_wp2_with fail
    refine (h2 _).mono ?_
    rintro e w' ⟨rfl, rfl⟩
    go_wp2_with fail
    refine (HW.out _ _ _ (by simp; omega) (by simp) (by simp) (by simp)).mono ?_
    rintro e w1 ⟨rfl, hb⟩
    go_wp2_with fail
    go_ret
    exact ⟨rfl, bl (bal (bal b0 _) _) hb⟩
  clear h1 h2
  go_enter Tryz.func47, Tryz.ntmps47
  go_wp2_with (go_at_call 66; refine (hall _).mono ?_; rintro e w1 ⟨rfl, hb⟩)
  go_ret
  exact ⟨rfl, hb⟩

end Go.Proofs.YtjklecncdinabaaGreatDoor.T
