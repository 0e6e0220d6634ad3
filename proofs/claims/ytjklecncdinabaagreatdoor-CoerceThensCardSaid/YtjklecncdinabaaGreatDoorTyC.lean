/- Contracts: Parts, by the program and by its answer. (printed by cutref.py out of XTypC.) -/
import Derived.Test.YtjklecncdinabaaGreatDoorTyB
namespace Go.Proofs.YtjklecncdinabaaGreatDoor.T
open Go.RowKit Go.Proofs.YtjklecncdinabaaGreatDoor.B
set_option linter.unusedSimpArgs false
set_option linter.unusedVariables false

theorem isB_str {t : Ty} (h : t.ok) (h64 : t.code.length ≤ 64) : isB (str t) = true := by
  unfold isB; rw [str, bs_list, check_code h h64]; rfl
theorem isB_iff {s : ByteArray} : isB s = true ↔ ∃ t : Ty, t.ok ∧ s = str t ∧ t.code.length ≤ 64 := by
  unfold isB
  rw [beq_iff_eq, check_ok]
  constructor
  · rintro ⟨t, h1, h2, h3⟩
    refine ⟨t, h1, ?_, by rw [h2]; exact h3⟩
    apply ByteArray.ext; apply Array.toList_inj.1; rw [str, bs_list, h2]
  · rintro ⟨t, h1, rfl, h3⟩
    exact ⟨t, h1, by rw [str, bs_list], by rw [str, bs_list]; exact h3⟩

def PartsR (t : Ty) (w : World) (e : Ending) (w' : World) : Prop := ∃ v, e = .returned v ∧ w'.ownsRow w.heap.size 9 1 v t.kids.length (t.kids.map strV) ∧ Below w.heap.size w w'

theorem Parts_yes (t : Ty) (w : World) (ht : t.ok) (h64 : t.code.length ≤ 64) :
    Calls Tryz.prog 70 #[.string (str t)] w fun e w' => PartsR t w e w' := by
  have hi := is_any (str t) w (by simp [str]; omega)
  rw [isB_str ht h64] at hi
  have hp := parts_any t w ht (by omega)
  generalize str t = s at *
  go_enter Tryz.func70, Tryz.ntmps70
  go_wp2_with (first
    | (go_at_call 81; refine hi.mono ?_; rintro e w' ⟨rfl, rfl⟩)
    | (go_at_call 84; refine hp.mono ?_; rintro e w1 ⟨v, rfl, ho, hb⟩))
  go_ret
  exact ⟨v, rfl, ho, hb⟩

theorem Parts_no (s : ByteArray) (w : World) (hs : s.size ≤ 4611686018427387904) (h : isB s = false) :
    Calls Tryz.prog 70 #[.string s] w fun e w' => e = .returned (.slice none 0 0) ∧ w = w' := by
  have hi := is_any s w hs
  rw [h] at hi
  go_enter Tryz.func70, Tryz.ntmps70
  go_wp2_with (go_at_call 81; refine hi.mono ?_; rintro e w' ⟨rfl, rfl⟩)
  go_ret
  exact ⟨rfl, rfl⟩

theorem str_head (t : Ty) : ∃ h : 0 < (str t).size, (str t)[0]'h = t.head := by
  have h1 : (str t).data.toList = t.head :: t.kids.flatMap Ty.code := by rw [str, bs_list, Ty.code_eq]
  have hp : 0 < (str t).size := by rw [str, bs_size]; exact t.code_pos
  refine ⟨hp, ?_⟩
  have := drop_byte (str t) 0 hp
  rw [List.drop_zero, h1] at this
  exact ((List.cons.inj this).1).symm

end Go.Proofs.YtjklecncdinabaaGreatDoor.T
