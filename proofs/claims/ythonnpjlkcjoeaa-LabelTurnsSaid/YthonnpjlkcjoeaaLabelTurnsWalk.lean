/- LabelTurns returns true, whatever the sites and the blame. -/
import Derived.Test.YthonnpjlkcjoeaaLabelC
namespace Go.Proofs.Ythonnpjlkcjoeaa.La
open Go.RowKit Go.Proofs.Ythonnpjlkcjoeaa.B
set_option linter.unusedSimpArgs false
set_option linter.unusedVariables false

theorem turn_lo (b : Int) (h0 : -9223372036854775808 ≤ b) (h1 : b ≤ 9223372036854775807) : -9223372036854775808 ≤ turn b ∧ turn b ≤ 9223372036854775807 := by
  unfold turn; split <;> omega

theorem side_pos {b : Int} (h : 0 < b) : sideL b = b ∧ sideI b = true ∧ turn b = -b := by
  refine ⟨by unfold sideL; rw [if_pos h], by unfold sideI; simpa using h, by unfold turn; rw [if_neg (by omega)]⟩
theorem side_neg {b : Int} (h : b < 0) (h0 : -9223372036854775808 < b) : sideL b = -b ∧ sideI b = false ∧ turn b = -b := by
  refine ⟨by unfold sideL; rw [if_neg (by omega), if_neg (by omega)], by unfold sideI; simp; omega, by unfold turn; rw [if_neg (by omega)]⟩

theorem turn_facts (b : Int) (h0 : -9223372036854775808 ≤ b) (h1 : b ≤ 9223372036854775807) (h : sideL b ≠ 0) : turn (turn b) = b ∧ sideL (turn b) = sideL b ∧ sideI (turn b) = !sideI b ∧ 1 ≤ sideL b ∧ sideL b ≤ 9223372036854775807 ∧
    sideL (sideL b) = sideL b ∧ sideL (-sideL b) = sideL b ∧ sideI (sideL b) = true ∧ sideI (-sideL b) = false := by
  by_cases hp : 0 < b
  · obtain ⟨e1, e2, e3⟩ := side_pos hp
    obtain ⟨f1, f2, f3⟩ := side_neg (b := -b) (by omega) (by omega)
    rw [e1, e2, e3, f1, f2, f3, e1]
    exact ⟨by omega, by omega, rfl, by omega, h1, rfl, by omega, rfl, rfl⟩
  · by_cases hm : b = -9223372036854775808 ∨ b = 0
    · exfalso; apply h; unfold sideL; rw [if_neg hp]; split <;> omega
    · have hn : b < 0 := by omega
      have hl : -9223372036854775808 < b := by omega
      obtain ⟨e1, e2, e3⟩ := side_neg hn hl
      obtain ⟨f1, f2, f3⟩ := side_pos (b := -b) (by omega)
      rw [e1, e2, e3, f1, f2, f3, Int.neg_neg, e1]
      exact ⟨rfl, rfl, rfl, by omega, by omega, rfl, rfl, rfl, by assumption⟩

theorem zero_facts (b : Int) (h0 : -9223372036854775808 ≤ b) (h1 : b ≤ 9223372036854775807) (h : sideL b = 0) : turn b = 0 ∧ sideL (turn b) = 0 ∧ sideI (turn b) = false ∧ sideI b = false := by
  unfold turn sideL sideI at *
  by_cases hp : 0 < b
  · simp only [hp, if_true] at h; omega
  · simp only [hp, if_false] at h ⊢
    by_cases hm : b = -9223372036854775808
    · simp [hm]
    · simp only [hm, if_false] at h ⊢
      have : b = 0 := by omega
      subst this; simp

set_option maxRecDepth 100000 in
theorem turns_any (l : List Site) (A : Option Addr) (c : Nat) (b : Int) (w : World) (h0 : -9223372036854775808 ≤ b) (h1 : b ≤ 9223372036854775807)
    (hl : l.length ≤ 9223372036854775807 / 56) (hok : ∀ s ∈ l, s.mo.size ≤ 140737488351232 ∧ s.ex.size ≤ 140737488351232) (hA : Sl w w.heap.size 5 A l.length (cells l)) :
    Calls Try.prog 3 #[.slice A l.length c, .int .i64 b] w fun e w' => e = .returned (.bool true) ∧ Below w.heap.size w w' := by
  have hS := fun W => side_any b W h0 h1
  have hT := fun W => turn_any b W h0 h1
  have hw := wide_any l A c w hl hok hA
  have hA1 : ∀ W, Below w.heap.size w W → Sl W W.heap.size 5 A l.length (cells l) := fun W hb => (hA.below hb).more hb.size
  by_cases hz : sideL b = 0
  · obtain ⟨z1, z2, z3, z4⟩ := zero_facts b h0 h1 hz
    rw [z1] at hT z2 z3
    have hS0 := fun W => side_any 0 W (by omega) (by omega)
    have hO := fun W A' c' => of_no l A' c' b W h0 h1 (by omega) (by omega)
    rw [hz, z4] at hS
    rw [z2, z3] at hS0
    unfold blank at hO
    clear z1 z2 z3 z4 hz
    go_enter Try.func3, Try.ntmps3
    go_wp2_with fail
    refine hw.mono ?_
    rintro e w1 ⟨bb, rfl, hwl, hb1⟩
    cases bb
    · have hwl' := hwl rfl
      clear hwl
      go_wp2_with fail
      refine (hS _).mono ?_
      rintro e w' ⟨rfl, rfl⟩
      go_wp2_with fail
      refine (hT _).mono ?_
      rintro e w' ⟨rfl, rfl⟩
      go_wp2_with fail
      refine (hS0 _).mono ?_
      rintro e w' ⟨rfl, rfl⟩
      go_wp2_with fail
      refine (copy_any l A c _ hwl' (hA1 _ hb1)).mono ?_
      rintro e w2 ⟨A', c', rfl, hsl, hb2⟩
      go_wp2_with fail
      refine (hO _ _ _).mono ?_
      rintro e w3 ⟨rfl, hb3⟩
      go_wp2_with (go_at_call 10; refine (lives_any _).mono ?_; rintro e w4 ⟨rfl, hb4⟩)
      go_ret
      exact ⟨rfl, bl (bal (bl (bl hb1 hb2) hb3) _) hb4⟩
    · go_wp2_with (go_at_call 10; refine (lives_any _).mono ?_; rintro e w2 ⟨rfl, hb2⟩)
      go_ret
      exact ⟨rfl, bl hb1 hb2⟩
  · obtain ⟨t1, t2, t3, t4, t5, u1, u2, u3, u4⟩ := turn_facts b h0 h1 hz
    obtain ⟨q0, q1⟩ := turn_lo b h0 h1
    have hS' := fun W => side_any (turn b) W q0 q1
    have hT' := fun W => turn_any (turn b) W q0 q1
    rw [t1] at hT'
    rw [t2, t3] at hS'
    by_cases hy : sideL b ≤ l.length
    · obtain ⟨k, hk⟩ : ∃ k : Nat, sideL b = (k : Int) + 1 := ⟨(sideL b - 1).toNat, by omega⟩
      obtain ⟨s, hs⟩ : ∃ s, l[k]? = some s := ⟨_, List.getElem?_eq_getElem (by omega)⟩
      have hO := fun W A' c' h => of_yes l A' c' k s b W h0 h1 (by omega) h hk hs
      have hO' := fun W A' c' h => of_yes l A' c' k s (turn b) W q0 q1 (by omega) h (t2.trans hk) hs
      have hN := fun W A' c' h => named_yes l A' c' k s (sideL b) W (by omega) (by omega) (by omega) h (u1.trans hk) hs
      have hN' := fun W A' c' h => named_yes l A' c' k s (-sideL b) W (by omega) (by omega) (by omega) h (u2.trans hk) hs
      rw [u3] at hN
      rw [u4] at hN'
      unfold Site.vs at hO hO'
      generalize hn : sideL b = n at *
      generalize ht : turn b = t at *
      generalize hi : sideI b = i at *
      have hne : (n == 0) = false := by simpa using hz
      clear hn ht hi hz t1 t2 t3 u1 u2 u3 u4 hk
      go_enter Try.func3, Try.ntmps3
      go_wp2_with fail
      refine hw.mono ?_
      rintro e w1 ⟨bb, rfl, hwl, hb1⟩
      cases bb
      · have hwl' := hwl rfl
        clear hwl
        go_wp2_with fail
        refine (hS _).mono ?_
        rintro e w' ⟨rfl, rfl⟩
        go_wp2_with fail
        refine (hT _).mono ?_
        rintro e w' ⟨rfl, rfl⟩
        go_wp2_with fail
        refine (hS' _).mono ?_
        rintro e w' ⟨rfl, rfl⟩
        go_wp2_with fail
        refine (hT' _).mono ?_
        rintro e w' ⟨rfl, rfl⟩
        go_wp2_with fail
        refine (copy_any l A c _ hwl' (hA1 _ hb1)).mono ?_
        rintro e w2 ⟨A2, c2, rfl, hs2, hb2⟩
        have hc2 := bl hb1 hb2
        go_wp2_with fail
        refine (hO _ _ _ hs2).mono ?_
        rintro e w3 ⟨rfl, hb3⟩
        have hc3 := bl hc2 hb3
        obtain ⟨k3, f3⟩ := bcell hb3
        go_wp2_with fail
        have hc4 := bal hc3 (.cells #[.string s.mo, .string s.ex, .int .i64 s.li, .int .i64 s.co, .int .i64 s.ru] 31)
        refine (copy_any l A c _ hwl' (hA1 _ hc4)).mono ?_
        rintro e w5 ⟨A5, c5, rfl, hs5, hb5⟩
        have hc5 := bl hc4 hb5
        obtain ⟨k5, f5⟩ := bcell hb5
        go_wp2_with fail
        refine (hO' _ _ _ hs5).mono ?_
        rintro e w6 ⟨rfl, hb6⟩
        have hc6 := bl hc5 hb6
        obtain ⟨k6, f6⟩ := bcell hb6
        have z3 := hb3.size
        have z5 := hb5.size
        have z6 := hb6.size
        simp only [World.size_alloc] at z5
        have g6 : ∀ j, w6.cell? ⟨w3.heap.size, j, none⟩ = #[Value.string s.mo, .string s.ex, .int .i64 s.li, .int .i64 s.co, .int .i64 s.ru][j]? := fun j => by
          rw [k6 _ _ (by omega), k5 _ _ (by simp), World.cell?_alloc_new]
        have g60 := g6 0
        have g61 := g6 1
        have g62 := g6 2
        have g63 := g6 3
        have g64 := g6 4
        simp at g60 g61 g62 g63 g64
        have z36 : w3.heap.size < w6.heap.size := by omega
        clear g6 k3 k5 k6 f3 f5 f6
        go_wp2_with fail
        have hc7 := bal hc6 (.cells #[.string s.mo, .string s.ex, .int .i64 s.li, .int .i64 s.co, .int .i64 s.ru] 31)
        refine (copy_any l A c _ hwl' (hA1 _ hc7)).mono ?_
        rintro e w8 ⟨A8, c8, rfl, hs8, hb8⟩
        have hc8 := bl hc7 hb8
        go_wp2_with fail
        refine (hN _ _ _ hs8).mono ?_
        rintro e w9 ⟨rfl, hb9⟩
        have hc9 := bl hc8 hb9
        have hk9 := bl hb8 hb9
        go_wp2_with fail
        refine (copy_any l A c _ hwl' (hA1 _ hc9)).mono ?_
        rintro e w10 ⟨A10, c10, rfl, hs10, hb10⟩
        have hc10 := bl hc9 hb10
        have hk10 := bl hk9 hb10
        go_wp2_with fail
        refine (hN' _ _ _ hs10).mono ?_
        rintro e w11 ⟨rfl, hb11⟩
        have hc11 := bl hc10 hb11
        have hk11 := bl hk10 hb11
        have e0 : w11.cell? ⟨w3.heap.size, 0, none⟩ = some (.string s.mo) := by rw [hk11.cell (by simp; omega), World.cell?_alloc_past _ _ _ (by omega)]; exact g60
        have e1 : w11.cell? ⟨w3.heap.size, 1, none⟩ = some (.string s.ex) := by rw [hk11.cell (by simp; omega), World.cell?_alloc_past _ _ _ (by omega)]; exact g61
        have e4 : w11.cell? ⟨w3.heap.size, 4, none⟩ = some (.int .i64 s.ru) := by rw [hk11.cell (by simp; omega), World.cell?_alloc_past _ _ _ (by omega)]; exact g64
        clear hk9 hk10 hk11 hb8 hb9 hb10 hb11 hc8 hc9 hc10 hc7 g60 g61 g62 g63 g64
        have n1 : nameOf s false = s.mo := by simp [nameOf]
        rw [n1]
        by_cases hr : s.ru = 18
        · have n2 : nameOf s true = s.ex := by simp [nameOf, hr]
          rw [n2]
          clear n1 n2
          have hr' : (s.ru == 18) = true := by simpa using hr
          clear hr
          go_wp2_with (go_at_call 10; refine (lives_any _).mono ?_; rintro e w12 ⟨rfl, hb12⟩)
          go_ret
          exact ⟨rfl, bl hc11 hb12⟩
        · have n2 : nameOf s true = s.mo := by simp [nameOf, hr]
          rw [n2]
          clear n1 n2
          have hr' : (s.ru == 18) = false := by simpa using hr
          clear hr
          go_wp2_with (go_at_call 10; refine (lives_any _).mono ?_; rintro e w12 ⟨rfl, hb12⟩)
          go_ret
          exact ⟨rfl, bl hc11 hb12⟩
      · go_wp2_with (go_at_call 10; refine (lives_any _).mono ?_; rintro e w2 ⟨rfl, hb2⟩)
        go_ret
        exact ⟨rfl, bl hb1 hb2⟩
    · have hO := fun W A' c' => of_no l A' c' b W h0 h1 (by omega) (by omega)
      have hO' := fun W A' c' => of_no l A' c' (turn b) W q0 q1 (by omega) (by omega)
      unfold blank at hO hO'
      generalize hn : sideL b = n at *
      generalize ht : turn b = t at *
      generalize hi : sideI b = i at *
      have hne : (n == 0) = false := by simpa using hz
      clear hn ht hi hz t1 t2 t3 u1 u2 u3 u4
      go_enter Try.func3, Try.ntmps3
      go_wp2_with fail
      refine hw.mono ?_
      rintro e w1 ⟨bb, rfl, hwl, hb1⟩
      cases bb
      · have hwl' := hwl rfl
        clear hwl
        go_wp2_with fail
        refine (hS _).mono ?_
        rintro e w' ⟨rfl, rfl⟩
        go_wp2_with fail
        refine (hT _).mono ?_
        rintro e w' ⟨rfl, rfl⟩
        go_wp2_with fail
        refine (hS' _).mono ?_
        rintro e w' ⟨rfl, rfl⟩
        go_wp2_with fail
        refine (hT' _).mono ?_
        rintro e w' ⟨rfl, rfl⟩
        go_wp2_with fail
        refine (copy_any l A c _ hwl' (hA1 _ hb1)).mono ?_
        rintro e w2 ⟨A2, c2, rfl, hs2, hb2⟩
        have hc2 := bl hb1 hb2
        go_wp2_with fail
        refine (hO _ _ _).mono ?_
        rintro e w3 ⟨rfl, hb3⟩
        have hc3 := bl hc2 hb3
        go_wp2_with fail
        have hc4 := bal hc3 (.cells #[.string ⟨#[]⟩, .string ⟨#[]⟩, .int .i64 0, .int .i64 0, .int .i64 0] 31)
        refine (copy_any l A c _ hwl' (hA1 _ hc4)).mono ?_
        rintro e w5 ⟨A5, c5, rfl, hs5, hb5⟩
        have hc5 := bl hc4 hb5
        go_wp2_with fail
        refine (hO' _ _ _).mono ?_
        rintro e w6 ⟨rfl, hb6⟩
        have hc6 := bl hc5 hb6
        have hk6 := bl hb5 hb6
        have z6 := hk6.size
        simp only [World.size_alloc] at z6
        have g6 : ∀ j, w6.cell? ⟨w3.heap.size, j, none⟩ = #[Value.string ⟨#[]⟩, .string ⟨#[]⟩, .int .i64 0, .int .i64 0, .int .i64 0][j]? := fun j => by
          rw [hk6.cell (by simp), World.cell?_alloc_new]
        have g60 := g6 0
        have g61 := g6 1
        have g62 := g6 2
        have g63 := g6 3
        have g64 := g6 4
        simp at g60 g61 g62 g63 g64
        have z36 : w3.heap.size < w6.heap.size := by omega
        have hyy : decide (n ≤ (l.length : Int)) = false := by simpa using hy
        clear g6 hk6 hb5 hb6 hb3 hb2
        go_wp2_with (go_at_call 10; refine (lives_any _).mono ?_; rintro e w12 ⟨rfl, hb12⟩)
        go_ret
        exact ⟨rfl, bl (bal hc6 _) hb12⟩
      · go_wp2_with (go_at_call 10; refine (lives_any _).mono ?_; rintro e w2 ⟨rfl, hb2⟩)
        go_ret
        exact ⟨rfl, bl hb1 hb2⟩

end Go.Proofs.Ythonnpjlkcjoeaa.La
