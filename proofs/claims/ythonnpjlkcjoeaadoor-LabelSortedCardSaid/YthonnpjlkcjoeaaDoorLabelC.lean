/- Contracts: label.words, label.Rule; lives: one border is told as the document says. -/
import Derived.Test.YthonnpjlkcjoeaaDoorLabelB
import Derived.Great.BuildSlice
import Derived.Laws.CopyOwn
namespace Go.Proofs.YthonnpjlkcjoeaaDoor.La
open Go.RowKit Go.Proofs.YthonnpjlkcjoeaaDoor.B
set_option linter.unusedSimpArgs false
set_option linter.unusedVariables false

def wordL : List (List UInt8) := [[], [98, 111, 100, 121], [108, 101, 116], [99, 97, 108, 108, 101, 100], [97, 114, 103, 117, 109, 101, 110, 116], [99, 111, 110, 100, 105, 116, 105, 111, 110], [116, 104, 101, 110], [101, 108, 115, 101], [105, 110, 116], [116, 101, 120, 116], [112, 97, 105, 114], [108, 105, 115, 116], [98, 111, 120], [101, 108, 101, 109, 101, 110, 116], [102, 105, 114, 115, 116], [115, 101, 116], [97, 115], [100, 101, 102], [105, 109, 112, 111, 114, 116]]
def wordsA : Array Value := (wordL.map fun l => Value.string ⟨l.toArray⟩).toArray
def word (n : Nat) : ByteArray := ⟨(wordL.getD n []).toArray⟩

theorem wordsA_size : wordsA.size = 19 := by kernel_rfl

theorem words_any (w : World) : Calls Tryd.prog 46 #[] w fun e w' => e = .returned (.agg wordsA) ∧ Below w.heap.size w w' := by
  go_enter Tryd.func46, Tryd.ntmps46
  go_wp2_with (first
    | (with_reducible refine wpList_buildTo rfl 82 _ rfl (some 1) rfl wordsA (by as_aux_lemma => kernel_rfl) ?_)
    | (with_reducible refine wpList_store_rowTo rfl 82 (.tmp 0) (.tmp 1) rfl rfl w.heap.size wordsA ?_ ?_ 82 _ (heap_alloc_new _ _) ?_ ?_ ?_ ?_))
  · rfl
  · rfl
  · kernel_rfl
  · kernel_rfl
  · kernel_rfl
  · refine bodyPost_ret (v := .agg wordsA) (results_cell_row rfl _ _ w.heap.size 82 wordsA (0, 0) (.array 19 9) rfl (setRow_heap _ _ _ _ _ _ (heap_alloc_new _ _)) (by kernel_rfl) rfl (by kernel_rfl)) rfl ⟨rfl, ?_⟩
    exact below_setRow ((Below.refl _ _).alloc (Nat.le_refl _) _) (Nat.le_refl _) _

theorem index_word0 (w : World) : (Instr.index 82 (.agg wordsA) (.int .i64 0)).run Tryd.prog w = .ok (.string (word 0)) w := by kernel_rfl
theorem index_word1 (w : World) : (Instr.index 82 (.agg wordsA) (.int .i64 1)).run Tryd.prog w = .ok (.string (word 1)) w := by kernel_rfl
theorem index_word2 (w : World) : (Instr.index 82 (.agg wordsA) (.int .i64 2)).run Tryd.prog w = .ok (.string (word 2)) w := by kernel_rfl
theorem index_word3 (w : World) : (Instr.index 82 (.agg wordsA) (.int .i64 3)).run Tryd.prog w = .ok (.string (word 3)) w := by kernel_rfl
theorem index_word4 (w : World) : (Instr.index 82 (.agg wordsA) (.int .i64 4)).run Tryd.prog w = .ok (.string (word 4)) w := by kernel_rfl
theorem index_word5 (w : World) : (Instr.index 82 (.agg wordsA) (.int .i64 5)).run Tryd.prog w = .ok (.string (word 5)) w := by kernel_rfl
theorem index_word6 (w : World) : (Instr.index 82 (.agg wordsA) (.int .i64 6)).run Tryd.prog w = .ok (.string (word 6)) w := by kernel_rfl
theorem index_word7 (w : World) : (Instr.index 82 (.agg wordsA) (.int .i64 7)).run Tryd.prog w = .ok (.string (word 7)) w := by kernel_rfl
theorem index_word8 (w : World) : (Instr.index 82 (.agg wordsA) (.int .i64 8)).run Tryd.prog w = .ok (.string (word 8)) w := by kernel_rfl
theorem index_word9 (w : World) : (Instr.index 82 (.agg wordsA) (.int .i64 9)).run Tryd.prog w = .ok (.string (word 9)) w := by kernel_rfl
theorem index_word10 (w : World) : (Instr.index 82 (.agg wordsA) (.int .i64 10)).run Tryd.prog w = .ok (.string (word 10)) w := by kernel_rfl
theorem index_word11 (w : World) : (Instr.index 82 (.agg wordsA) (.int .i64 11)).run Tryd.prog w = .ok (.string (word 11)) w := by kernel_rfl
theorem index_word12 (w : World) : (Instr.index 82 (.agg wordsA) (.int .i64 12)).run Tryd.prog w = .ok (.string (word 12)) w := by kernel_rfl
theorem index_word13 (w : World) : (Instr.index 82 (.agg wordsA) (.int .i64 13)).run Tryd.prog w = .ok (.string (word 13)) w := by kernel_rfl
theorem index_word14 (w : World) : (Instr.index 82 (.agg wordsA) (.int .i64 14)).run Tryd.prog w = .ok (.string (word 14)) w := by kernel_rfl
theorem index_word15 (w : World) : (Instr.index 82 (.agg wordsA) (.int .i64 15)).run Tryd.prog w = .ok (.string (word 15)) w := by kernel_rfl
theorem index_word16 (w : World) : (Instr.index 82 (.agg wordsA) (.int .i64 16)).run Tryd.prog w = .ok (.string (word 16)) w := by kernel_rfl
theorem index_word17 (w : World) : (Instr.index 82 (.agg wordsA) (.int .i64 17)).run Tryd.prog w = .ok (.string (word 17)) w := by kernel_rfl
theorem index_word18 (w : World) : (Instr.index 82 (.agg wordsA) (.int .i64 18)).run Tryd.prog w = .ok (.string (word 18)) w := by kernel_rfl

theorem index_words (n : Nat) (h : n < 19) (w : World) : (Instr.index 82 (.agg wordsA) (.int .i64 n)).run Tryd.prog w = .ok (.string (word n)) w := by
  have hn : n = 0 ∨ n = 1 ∨ n = 2 ∨ n = 3 ∨ n = 4 ∨ n = 5 ∨ n = 6 ∨ n = 7 ∨ n = 8 ∨ n = 9 ∨ n = 10 ∨ n = 11 ∨ n = 12 ∨ n = 13 ∨ n = 14 ∨ n = 15 ∨ n = 16 ∨ n = 17 ∨ n = 18 := by omega
  rcases hn with rfl | rfl | rfl | rfl | rfl | rfl | rfl | rfl | rfl | rfl | rfl | rfl | rfl | rfl | rfl | rfl | rfl | rfl | rfl
  · exact index_word0 w
  · exact index_word1 w
  · exact index_word2 w
  · exact index_word3 w
  · exact index_word4 w
  · exact index_word5 w
  · exact index_word6 w
  · exact index_word7 w
  · exact index_word8 w
  · exact index_word9 w
  · exact index_word10 w
  · exact index_word11 w
  · exact index_word12 w
  · exact index_word13 w
  · exact index_word14 w
  · exact index_word15 w
  · exact index_word16 w
  · exact index_word17 w
  · exact index_word18 w

theorem rule_yes (n : Nat) (w : World) (h1 : 1 ≤ n) (h2 : n < 19) : Calls Tryd.prog 20 #[.int .i64 n] w fun e w' => e = .returned (.string (word n)) ∧ Below w.heap.size w w' := by
  have hw := words_any w
  have hi := index_words n h2
  obtain ⟨C, hC⟩ : ∃ C, wordsA = C := ⟨_, rfl⟩
  obtain ⟨s, hs⟩ : ∃ s, word n = s := ⟨_, rfl⟩
  rw [hC] at hw hi
  rw [hs] at hi ⊢
  clear hC hs
  go_enter Tryd.func20, Tryd.ntmps20
  go_wp2_with (go_at_call 46; refine hw.mono ?_; rintro e w1 ⟨rfl, hb⟩)
  go_ret
  exact ⟨rfl, hb⟩

theorem rule_no (n : Int) (w : World) (h : n < 1 ∨ 18 < n) (h0 : -9223372036854775808 ≤ n) (h1 : n ≤ 9223372036854775807) : Calls Tryd.prog 20 #[.int .i64 n] w fun e w' => e = .returned (.string ⟨#[]⟩) ∧ w = w' := by
  by_cases h3 : n ≤ 0
  · clear h
    go_enter Tryd.func20, Tryd.ntmps20
    go_wp2
    go_ret
    exact ⟨rfl, rfl⟩
  · have h4 : 19 ≤ n := by omega
    clear h
    go_enter Tryd.func20, Tryd.ntmps20
    go_wp2
    go_ret
    exact ⟨rfl, rfl⟩

/-- The one border of lives. -/
def bord : Site := ⟨⟨#[109, 97, 105, 110]⟩, ⟨#[108, 105, 98]⟩, 0, 0, 18⟩
def bordA : Array Value := #[.string ⟨#[109, 97, 105, 110]⟩, .string ⟨#[108, 105, 98]⟩, .int .i64 0, .int .i64 0, .int .i64 18]

theorem bord_sl (w W : World) (hb : Below (w.heap.size + 1) (w.alloc (.cells bordA 31)) W) : Sl W W.heap.size 5 (some ⟨w.heap.size, 0, none⟩) 1 (cells [bord]) := by
  have hz := hb.size
  simp at hz
  refine ⟨rfl, .inr ⟨w.heap.size, 0, rfl, by omega, fun j u hu => ?_⟩⟩
  rw [hb.cell (p := ⟨w.heap.size, 0 + j, none⟩) (by simp)]
  rw [World.cell?_alloc_new]
  have h : (cells [bord])[j]? = bordA[j]? := by rw [← Array.getElem?_toList]; rfl
  rw [Nat.zero_add, ← h, hu]

set_option maxRecDepth 100000 in
theorem lives_any (w : World) : Calls Tryd.prog 8 #[] w fun e w' => e = .returned (.bool true) ∧ Below w.heap.size w w' := by
  have n1 : ∀ W : World, Below (w.heap.size + 1) (w.alloc (.cells bordA 31)) W →
      Calls Tryd.prog 14 #[.slice (some ⟨w.heap.size, 0, none⟩) 1 1, .int .i64 1] W fun e w' => e = .returned (.tuple #[.string ⟨#[108, 105, 98]⟩, .int .i64 0]) ∧ Below W.heap.size W w' :=
    fun W hb => named_yes [bord] _ 1 0 bord 1 W (by omega) (by omega) (by simp) (bord_sl w W hb) (by simp [sideL]) rfl
  have n2 : ∀ W : World, Below (w.heap.size + 1) (w.alloc (.cells bordA 31)) W →
      Calls Tryd.prog 14 #[.slice (some ⟨w.heap.size, 0, none⟩) 1 1, .int .i64 (-1)] W fun e w' => e = .returned (.tuple #[.string ⟨#[109, 97, 105, 110]⟩, .int .i64 0]) ∧ Below W.heap.size W w' :=
    fun W hb => named_yes [bord] _ 1 0 bord (-1) W (by omega) (by omega) (by simp) (bord_sl w W hb) (by simp [sideL]) rfl
  have n3 : ∀ W : World,
      Calls Tryd.prog 14 #[.slice (some ⟨w.heap.size, 0, none⟩) 1 1, .int .i64 2] W fun e w' => e = .returned (.tuple #[.string ⟨#[]⟩, .int .i64 1]) ∧ Below W.heap.size W w' :=
    fun W => named_no [bord] _ 1 2 W (by omega) (by omega) (by simp) (by simp [sideL])
  have s1 : ∀ W : World, Calls Tryd.prog 10 #[.int .i64 (-7)] W fun e w' => e = .returned (.tuple #[.int .i64 7, .bool false]) ∧ W = w' := fun W => side_any (-7) W (by omega) (by omega)
  have t1 : ∀ W : World, Calls Tryd.prog 18 #[.int .i64 (-7)] W fun e w' => e = .returned (.int .i64 7) ∧ W = w' := fun W => turn_any (-7) W (by omega) (by omega)
  have r1 : ∀ W : World, Calls Tryd.prog 20 #[.int .i64 4] W fun e w' => e = .returned (.string ⟨#[97, 114, 103, 117, 109, 101, 110, 116]⟩) ∧ Below W.heap.size W w' := fun W => rule_yes 4 W (by omega) (by omega)
  unfold bordA at n1 n2
  go_enter Tryd.func8, Tryd.ntmps8
  go_wp2_with fail
  refine (n1 _ (Below.refl _ _)).mono ?_
  rintro e w1 ⟨rfl, hb1⟩
  have hz1 := hb1.size
  simp only [World.size_alloc] at hz1
  have hc1 := hb1.mono (show w.heap.size + 1 ≤ _ by simp)
  go_wp2_with fail
  refine (n2 _ hc1).mono ?_
  rintro e w2 ⟨rfl, hb2⟩
  have hz2 := hb2.size
  have hc2 := hc1.trans (hb2.mono (show w.heap.size + 1 ≤ _ by omega))
  go_wp2_with fail
  refine (n3 _).mono ?_
  rintro e w3 ⟨rfl, hb3⟩
  have hz3 := hb3.size
  have hc3 := hc2.trans (hb3.mono (show w.heap.size + 1 ≤ _ by omega))
  clear n1 n2 n3 hb1 hb2 hb3 hc1 hc2
  go_wp2_with (first
    | (go_at_call 10; refine (s1 _).mono ?_; rintro e w' ⟨rfl, rfl⟩)
    | (go_at_call 18; refine (t1 _).mono ?_; rintro e w' ⟨rfl, rfl⟩)
    | (go_at_call 20; refine (r1 _).mono ?_; rintro e w4 ⟨rfl, hb4⟩))
  go_ret
  exact ⟨rfl, ((Below.refl _ _).alloc (Nat.le_refl _) _).trans ((hc3.mono (by omega)).trans (hb4.mono (by omega)))⟩

end Go.Proofs.YthonnpjlkcjoeaaDoor.La
