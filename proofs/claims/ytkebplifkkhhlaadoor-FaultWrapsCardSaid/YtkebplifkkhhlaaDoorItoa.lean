/- The table that Itoa reads; the answer's marks. -/
import Derived.Test.YtkebplifkkhhlaaDoorBase
import Derived.Test.YtkebplifkkhhlaaDoorProg
import Derived.Test.YtkebplifkkhhlaaDoorShelf
import Derived.Lib.ItoaLen
import Derived.Lib.AppendIntMem
namespace Go.Proofs.YtkebplifkkhhlaaDoor.T
open Go.RowKit Go.Proofs.YtkebplifkkhhlaaDoor.B
set_option linter.unusedSimpArgs false
set_option linter.unusedVariables false

/-- The table that Itoa reads stands. -/
abbrev Tab (w : World) : Prop := Lib.TabBelow Tryd.prog w.heap.size w "internal/strconv.uint64pow10" .u64 Lib.pow10Tab
def itoaS (n : Int) : ByteArray := ⟨(Lib.itoa n).toArray⟩
theorem itoaS_size (n : Int) (h0 : -9223372036854775808 ≤ n) (h1 : n ≤ 9223372036854775807) : (itoaS n).size ≤ 21 := by
  have := Lib.itoa_length_le n h0 h1
  simpa [itoaS, ByteArray.size] using this
theorem itoa_any (n : Int) (w W : World) (h0 : -9223372036854775808 ≤ n) (h1 : n ≤ 9223372036854775807) (ht : Tab w) (hb : Below w.heap.size w W) :
    Calls Tryd.prog 62 #[.int .i64 n] W fun e w' => e = .returned (.string (itoaS n)) ∧ Below W.heap.size W w' :=
  (Tryd.strconv_Itoa n h0 h1 W (ht W hb)).mono fun e w' ⟨h, k, os, hw⟩ => ⟨h, by rw [hw]; exact Lib.below_grow _ W (Nat.le_refl _) k os⟩

theorem num_any (n i : Int) (w : World) (h0 : 0 ≤ n) (h1 : n ≤ 1048576) (h2 : 0 ≤ i) (h3 : i ≤ 4611686018427387904) :
    Calls Tryd.prog 94 #[.int .i64 n, .int .i64 i] w fun e w' => e = .returned (.int .i64 (1048576 * n + i + 1)) ∧ w = w' := by
  go_enter Tryd.func94, Tryd.ntmps94
  go_wp2_with fail
  go_ret
  exact ⟨rfl, rfl⟩

/-- A mark. -/
def tmark (i : Nat) : ByteArray := ⟨#[33]⟩ ++ itoaS (1048576 * 9 + (i : Int) + 1)
theorem text_any (i : Nat) (w W : World) (hi : i ≤ 4611686018427387904) (ht : Tab w) (hb : Below w.heap.size w W) :
    Calls Tryd.prog 113 #[.int .i64 9, .int .i64 i] W fun e w' => e = .returned (.string (tmark i)) ∧ Below W.heap.size W w' := by
  have h1 := Lib.hid fun V => num_any 9 (i : Int) V (by omega) (by omega) (by omega) (by omega)
  have h2 := Lib.hid (itoa_any (1048576 * 9 + (i : Int) + 1) w W (by omega) (by omega) ht hb)
  have hz := itoaS_size (1048576 * 9 + (i : Int) + 1) (by omega) (by omega)
  have s1 := fun V => (run_string_add_sum (P := Tryd.prog) V ⟨#[33]⟩ (itoaS (1048576 * 9 + (i : Int) + 1)) (by show 1 + _ ≤ _; omega))
  unfold tmark
  generalize itoaS (1048576 * 9 + (i : Int) + 1) = d at *
  go_enter Tryd.func113, Tryd.ntmps113
  go_wp2_with fail
  refine (h1.out _).mono ?_
  rintro e w' ⟨rfl, rfl⟩
  go_wp2_with fail
  refine h2.out.mono ?_
  rintro e w' ⟨rfl, hb2⟩
  go_wp2_with fail
  go_ret
  exact ⟨rfl, hb2⟩
end Go.Proofs.YtkebplifkkhhlaaDoor.T
