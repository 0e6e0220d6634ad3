/- Contracts of the reference's small functions of layer 9: they answer as package label does. -/
import Derived.Test.YthonnpjlkcjoeaaDoorLabelC
namespace Go.Proofs.YthonnpjlkcjoeaaDoor.La
open Go.RowKit Go.Proofs.YthonnpjlkcjoeaaDoor.B
set_option linter.unusedSimpArgs false
set_option linter.unusedVariables false

theorem sideR_any (b : Int) (w : World) (h0 : -9223372036854775808 ≤ b) (h1 : b ≤ 9223372036854775807) :
    Calls Tryd.prog 11 #[.int .i64 b] w fun e w' => e = .returned (.tuple #[.int .i64 (sideL b), .bool (sideI b)]) ∧ w = w' := by
  unfold sideL sideI
  by_cases hp : 0 < b
  · have hz : (b == 0) = false := by simp; omega
    have hm : (b == -9223372036854775808) = false := by simp; omega
    have hn : ¬ b < 0 := by omega
    go_enter Tryd.func11, Tryd.ntmps11
    go_wp2
    go_ret2
    simp [hp]
  · by_cases hm : b = -9223372036854775808
    · subst hm
      go_enter Tryd.func11, Tryd.ntmps11
      go_wp2
      go_ret2
      simp
    · by_cases hz : b = 0
      · subst hz
        go_enter Tryd.func11, Tryd.ntmps11
        go_wp2
        go_ret2
        simp
      · have hz' : (b == 0) = false := by simp; omega
        have hm' : (b == -9223372036854775808) = false := by simp; omega
        have hn : b < 0 := by omega
        have hm1 : -9223372036854775808 < b := by omega
        go_enter Tryd.func11, Tryd.ntmps11
        go_wp2
        go_ret2
        simp [hp, hm]

theorem turnR_any (b : Int) (w : World) (h0 : -9223372036854775808 ≤ b) (h1 : b ≤ 9223372036854775807) :
    Calls Tryd.prog 19 #[.int .i64 b] w fun e w' => e = .returned (.int .i64 (turn b)) ∧ w = w' := by
  unfold turn
  by_cases hm : b = -9223372036854775808
  · go_enter Tryd.func19, Tryd.ntmps19
    go_wp2
    go_ret
    simp [hm]
  · have hm1 : -9223372036854775808 < b := by omega
    go_enter Tryd.func19, Tryd.ntmps19
    go_wp2
    go_ret
    simp [hm]

theorem ofR_no (l : List Site) (A : Option Addr) (c : Nat) (b : Int) (w : World) (h0 : -9223372036854775808 ≤ b) (h1 : b ≤ 9223372036854775807) (hl : l.length ≤ 9223372036854775807)
    (h : sideL b < 1 ∨ (l.length : Int) < sideL b) :
    Calls Tryd.prog 13 #[.slice A l.length c, .int .i64 b] w fun e w' => e = .returned (.tuple #[.agg blank, .int .i64 1]) ∧ Below w.heap.size w w' := by
  obtain ⟨n, hn⟩ : ∃ n, sideL b = n := ⟨_, rfl⟩
  have hs := fun W => sideR_any b W h0 h1
  rw [hn] at hs h
  clear hn
  unfold blank at *
  by_cases h2 : n < 1
  · clear h
    go_enter Tryd.func13, Tryd.ntmps13
    go_wp2_with fail
    refine (hs _).mono ?_
    rintro e w' ⟨rfl, rfl⟩
    go_wp2_with fail
    refine bodyPost_ret (v := .tuple #[.agg #[.string ⟨#[]⟩, .string ⟨#[]⟩, .int .i64 0, .int .i64 0, .int .i64 0], .int .i64 1]) (by simp [results, Tryd.results13, go_sem]) rfl ⟨rfl, ?_⟩
    exact (Below.refl _ _).alloc (Nat.le_refl _) _
  · have h3 : (l.length : Int) < n := by omega
    clear h
    go_enter Tryd.func13, Tryd.ntmps13
    go_wp2_with fail
    refine (hs _).mono ?_
    rintro e w' ⟨rfl, rfl⟩
    go_wp2_with fail
    refine bodyPost_ret (v := .tuple #[.agg #[.string ⟨#[]⟩, .string ⟨#[]⟩, .int .i64 0, .int .i64 0, .int .i64 0], .int .i64 1]) (by simp [results, Tryd.results13, go_sem]) rfl ⟨rfl, ?_⟩
    exact (Below.refl _ _).alloc (Nat.le_refl _) _

theorem ofR_yes (l : List Site) (A : Option Addr) (c k : Nat) (s : Site) (b : Int) (w : World) (h0 : -9223372036854775808 ≤ b) (h1 : b ≤ 9223372036854775807) (hl : l.length ≤ 9223372036854775807)
    (hA : Sl w w.heap.size 5 A l.length (cells l)) (hk : sideL b = (k : Int) + 1) (hs : l[k]? = some s) :
    Calls Tryd.prog 13 #[.slice A l.length c, .int .i64 b] w fun e w' => e = .returned (.tuple #[.agg s.vs.toArray, .int .i64 0]) ∧ Below w.heap.size w w' := by
  have hlt : k < l.length := (List.getElem?_eq_some_iff.1 hs).1
  obtain ⟨bb, o, rfl, hb, c0, c1, c2, c3, c4⟩ := site_cells hA hs
  have hs := fun W => sideR_any b W h0 h1
  rw [hk] at hs
  clear hk hA
  unfold Site.vs at *
  go_enter Tryd.func13, Tryd.ntmps13
  go_wp2_with fail
  refine (hs _).mono ?_
  rintro e w' ⟨rfl, rfl⟩
  go_wp2_with fail
  refine bodyPost_ret (v := .tuple #[.agg #[.string s.mo, .string s.ex, .int .i64 s.li, .int .i64 s.co, .int .i64 s.ru], .int .i64 0]) (by simp [results, Tryd.results13, go_sem]) rfl ⟨rfl, ?_⟩
  exact (Below.refl _ _).alloc (Nat.le_refl _) _

theorem namedR_no (l : List Site) (A : Option Addr) (c : Nat) (b : Int) (w : World) (h0 : -9223372036854775808 ≤ b) (h1 : b ≤ 9223372036854775807) (hl : l.length ≤ 9223372036854775807)
    (h : sideL b < 1 ∨ (l.length : Int) < sideL b) :
    Calls Tryd.prog 15 #[.slice A l.length c, .int .i64 b] w fun e w' => e = .returned (.tuple #[.string ⟨#[]⟩, .int .i64 1]) ∧ Below w.heap.size w w' := by
  have ho := ofR_no l A c b w h0 h1 hl h
  clear h
  unfold blank at ho
  go_enter Tryd.func15, Tryd.ntmps15
  go_wp2_with (go_at_call 13; refine ho.mono ?_; rintro e w1 ⟨rfl, hb⟩)
  go_ret2
  exact ⟨rfl, hb.alloc hb.size _⟩

theorem namedR_yes (l : List Site) (A : Option Addr) (c k : Nat) (s : Site) (b : Int) (w : World) (h0 : -9223372036854775808 ≤ b) (h1 : b ≤ 9223372036854775807) (hl : l.length ≤ 9223372036854775807)
    (hA : Sl w w.heap.size 5 A l.length (cells l)) (hk : sideL b = (k : Int) + 1) (hs : l[k]? = some s) :
    Calls Tryd.prog 15 #[.slice A l.length c, .int .i64 b] w fun e w' => e = .returned (.tuple #[.string (nameOf s (sideI b)), .int .i64 0]) ∧ Below w.heap.size w w' := by
  have ho := ofR_yes l A c k s b w h0 h1 hl hA hk hs
  have hS := fun W => sideR_any b W h0 h1
  clear hA hk hs
  generalize sideI b = i at *
  generalize sideL b = n at *
  unfold Site.vs nameOf at *
  obtain ⟨mo, ex, li, co, ru⟩ := s
  dsimp only at *
  by_cases h18 : ru = 18
  · subst h18
    cases i
    all_goals
      go_enter Tryd.func15, Tryd.ntmps15
      go_wp2_with fail
      refine ho.mono ?_
      rintro e w1 ⟨rfl, hb⟩
      go_wp2_with fail
      refine (hS _).mono ?_
      rintro e w' ⟨rfl, rfl⟩
      go_wp2_with fail
      go_ret2
      exact ⟨rfl, hb.alloc hb.size _⟩
  · cases i
    all_goals
      go_enter Tryd.func15, Tryd.ntmps15
      go_wp2_with fail
      refine ho.mono ?_
      rintro e w1 ⟨rfl, hb⟩
      go_wp2_with fail
      refine (hS _).mono ?_
      rintro e w' ⟨rfl, rfl⟩
      go_wp2_with fail
      go_ret2
      exact ⟨rfl, hb.alloc hb.size _⟩

set_option maxHeartbeats 4000000 in
theorem ruleR_yes (n : Nat) (w : World) (h1 : 1 ≤ n) (h2 : n < 19) : Calls Tryd.prog 21 #[.int .i64 n] w fun e w' => e = .returned (.string (word n)) ∧ Below w.heap.size w w' := by
  have hn : n = 1 ∨ n = 2 ∨ n = 3 ∨ n = 4 ∨ n = 5 ∨ n = 6 ∨ n = 7 ∨ n = 8 ∨ n = 9 ∨ n = 10 ∨ n = 11 ∨ n = 12 ∨ n = 13 ∨ n = 14 ∨ n = 15 ∨ n = 16 ∨ n = 17 ∨ n = 18 := by omega
  clear h1 h2
  rcases hn with rfl | rfl | rfl | rfl | rfl | rfl | rfl | rfl | rfl | rfl | rfl | rfl | rfl | rfl | rfl | rfl | rfl | rfl
  all_goals
    go_enter Tryd.func21, Tryd.ntmps21
    go_wp2_with fail
    go_ret
    exact ⟨rfl, bal (Below.refl _ _) _⟩

theorem ruleR_no (n : Int) (w : World) (h : n < 1 ∨ 18 < n) (h0 : -9223372036854775808 ≤ n) (h1 : n ≤ 9223372036854775807) : Calls Tryd.prog 21 #[.int .i64 n] w fun e w' => e = .returned (.string ⟨#[]⟩) ∧ Below w.heap.size w w' := by
  by_cases h3 : n < 1
  · clear h
    go_enter Tryd.func21, Tryd.ntmps21
    go_wp2_with fail
    go_ret
    exact ⟨rfl, bal (Below.refl _ _) _⟩
  · have h4 : 18 < n := by omega
    clear h
    go_enter Tryd.func21, Tryd.ntmps21
    go_wp2_with fail
    go_ret
    exact ⟨rfl, bal (Below.refl _ _) _⟩
end Go.Proofs.YthonnpjlkcjoeaaDoor.La
