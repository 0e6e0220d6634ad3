/- RelateOrder returns true, whatever the three texts. -/
import Derived.Test.YthonnpjlkcjoeaaOrderW
import Derived.Test.YthonnpjlkcjoeaaRelV
namespace Go.Proofs.Ythonnpjlkcjoeaa.T
open Go.RowKit Go.Proofs.Ythonnpjlkcjoeaa.B
set_option linter.unusedSimpArgs false
set_option linter.unusedVariables false

set_option maxRecDepth 100000 in
theorem order_no (s t u : ByteArray) (w : World) (hs : s.size ≤ 4611686018427387904) (ht : t.size ≤ 4611686018427387904) (hu : u.size ≤ 4611686018427387904) (h : isB s = false ∨ isB t = false ∨ isB u = false) :
    Calls Try.prog 6 #[.string s, .string t, .string u] w fun e w' => e = .returned (.bool true) ∧ Below w.heap.size w w' := by
  have h1 := fun W => isLaw_any s W hs
  have h2 := fun W => isLaw_any t W ht
  have h3 := fun W => isLaw_any u W hu
  generalize isB s = a at *
  generalize isB t = b at *
  generalize isB u = c at *
  cases a
  · clear h
    go_enter Try.func6, Try.ntmps6
    go_wp2_with fail
    with_reducible refine (h1 _).mono ?_
    rintro e w1 ⟨rfl, rfl⟩
    go_wp2_with fail
    with_reducible refine (lives03 _).mono ?_
    rintro e w1 ⟨rfl, hb1⟩
    go_wp2_with fail
    go_ret
    exact ⟨rfl, hb1⟩
  · cases b
    · clear h
      go_enter Try.func6, Try.ntmps6
      go_wp2_with fail
      with_reducible refine (h1 _).mono ?_
      rintro e w1 ⟨rfl, rfl⟩
      go_wp2_with fail
      with_reducible refine (h2 _).mono ?_
      rintro e w1 ⟨rfl, rfl⟩
      go_wp2_with fail
      with_reducible refine (lives03 _).mono ?_
      rintro e w1 ⟨rfl, hb1⟩
      go_wp2_with fail
      go_ret
      exact ⟨rfl, hb1⟩
    · obtain rfl : c = false := by simpa using h
      clear h
      go_enter Try.func6, Try.ntmps6
      go_wp2_with fail
      with_reducible refine (h1 _).mono ?_
      rintro e w1 ⟨rfl, rfl⟩
      go_wp2_with fail
      with_reducible refine (h2 _).mono ?_
      rintro e w1 ⟨rfl, rfl⟩
      go_wp2_with fail
      with_reducible refine (h3 _).mono ?_
      rintro e w1 ⟨rfl, rfl⟩
      go_wp2_with fail
      with_reducible refine (lives03 _).mono ?_
      rintro e w1 ⟨rfl, hb1⟩
      go_wp2_with fail
      go_ret
      exact ⟨rfl, hb1⟩

theorem str_eq2 {U T : Ty} (hU : U.ok) (hT : T.ok) : ((str U).toList == (str T).toList) = true ↔ U = T := by
  rw [Lib.toList_data, Lib.toList_data, str, str, bs_list, bs_list, beq_iff_eq]
  exact ⟨fun h => code_inj hU hT h, fun h => by rw [h]⟩

theorem dyn_lit : (⟨#[63]⟩ : ByteArray) = str (.leaf 63) := by decide

theorem static_is {T : Ty} (hT : T.ok) (hT64 : T.code.length ≤ 64) : (isB (str T) && !(str T).data.toList.contains 63) = static T := by
  rw [isB_str hT hT64]; rfl

theorem order_yes (S T U : Ty) (w : World) (hS : S.ok) (hT : T.ok) (hU : U.ok) (hS64 : S.code.length ≤ 64) (hT64 : T.code.length ≤ 64) (hU64 : U.code.length ≤ 64) :
    Calls Try.prog 6 #[.string (str S), .string (str T), .string (str U)] w fun e w' => e = .returned (.bool true) ∧ Below w.heap.size w w' := by
  have size : ∀ {X : Ty}, X.code.length ≤ 64 → (str X).size ≤ 4611686018427387904 := fun h => by simp only [str, bs_size]; omega
  have is : ∀ {X : Ty}, X.ok → X.code.length ≤ 64 → SaysB 26 #[.string (str X)] true := fun hX h W => (isLaw_any _ W (size h)).mono fun e w' ⟨h1, h2⟩ => ⟨by rw [h1, isB_str hX h], by rw [h2]; exact Below.refl _ _⟩
  have prec : ∀ {X Y : Ty}, X.ok → Y.ok → X.code.length ≤ 64 → Y.code.length ≤ 64 → SaysB 23 #[.string (str X), .string (str Y)] (allT askP X Y) := fun h1 h2 h3 h4 W => Prec_yes _ _ W h1 h2 h3 h4
  have precT : ∀ {X Y : Ty}, X.ok → Y.ok → X.code.length ≤ 64 → Y.code.length ≤ 64 → le X Y → SaysB 23 #[.string (str X), .string (str Y)] true := fun h1 h2 h3 h4 h => by
    have := prec h1 h2 h3 h4; rw [show allT askP _ _ = true from h] at this; exact this
  have stat : ∀ {X : Ty}, X.ok → X.code.length ≤ 64 → SaysB 29 #[.string (str X)] (static X) := fun hX h W => by
    have := Static_any (str _) W (size h); rw [static_is hX h] at this; exact this
  obtain ⟨jl1, jl2, jl3⟩ := join_le hS hT
  have hJ := join_ok hS hT
  have hJ64 : (joinT S T).code.length ≤ 64 := Nat.le_trans (le_len hS hJ jl1) hS64
  have hd : SaysB 21 #[.string (str T), .string (str S)] (allT askC S T) := fun W => by
    have := Cons_yes T S W hT hS hT64 hS64
    rw [show allT askC T S = allT askC S T from Bool.eq_iff_iff.2 ⟨fun h => co_symm hT hS h, fun h => co_symm hS hT h⟩] at this
    exact this
  have hcc : allT askC T S = allT askC S T := Bool.eq_iff_iff.2 ⟨fun h => co_symm hT hS h, fun h => co_symm hS hT h⟩
  have hk : SaysM 19 #[.string (str T), .string (str S)] (str (joinT S T)) 0 := fun W => by
    have := Join_yes T S W hT hS hT64 hS64; rw [← join_comm hS hT] at this; exact this
  have hm2 : SaysM 17 #[.string (str T), .string (str S)] (meetS S T) (meetE S T) := fun W => by
    have := Meet_yes T S W hT hS hT64 hS64
    rw [show meetS T S = meetS S T by
        unfold meetS; rw [hcc]
        by_cases h : allT askC S T = true
        · rw [meet_comm hS hT h]
        · rw [if_neg h, if_neg h], show meetE T S = meetE S T by
        unfold meetE; rw [hcc]
        by_cases h : allT askC S T = true
        · rw [meet_comm hS hT h]
        · rw [if_neg h, if_neg h]] at this
    exact this
  have hE : meetE S T = 0 → co S T ∧ (meetT S T).code.length ≤ 64 ∧ meetS S T = str (meetT S T) := fun h => by
    unfold meetE at h
    unfold meetS
    by_cases hc : allT askC S T = true
    · rw [if_pos hc] at h ⊢
      by_cases hl : 64 < (meetT S T).code.length
      · rw [if_pos hl] at h; omega
      · rw [if_neg hl]; exact ⟨hc, by omega, rfl⟩
    · rw [if_neg hc] at h; omega
  refine order_core (str S) (str T) (str U) (meetS S T) (str (joinT S T)) (meetE S T) (allT askP S T) (allT askP T S) (allT askP T U) (allT askP S U) (allT askC S T) (static S) (static T) ((str S).toList == (str T).toList)
    (allT askP U S) (allT askP U T) (allT askP U (meetT S T)) (allT askP (joinT S T) U) w (is hS hS64) (is hT hT64) (is hU hU64) (precT hS hS hS64 hS64 (le_refl hS)) ?_ (prec hS hT hS64 hT64) (prec hT hS hT64 hS64) (prec hT hU hT64 hU64) (prec hS hU hS64 hU64)
    (fun W => Cons_yes S T W hS hT hS64 hT64) hd (stat hS hS64) (stat hT hT64) (fun W => Meet_yes S T W hS hT hS64 hT64) hm2 ?_ ?_ ?_ (prec hU hS hU64 hS64) (prec hU hT hU64 hT64)
    (fun W => Join_yes S T W hS hT hS64 hT64) hk (precT hS hJ hS64 hJ64 jl1) (precT hT hJ hT64 hJ64 jl2) (prec hJ hU hJ64 hU64) rfl ?_ ?_ ?_ ?_ ?_ ?_ ?_
  · rw [dyn_lit]; exact precT hS ok_q hS64 (by decide) (le_q hS ok_q rfl)
  · intro h
    obtain ⟨h1, h2, h3⟩ := hE h
    rw [h3]; exact precT (meet_ok hS hT) hS h2 hS64 (meet_le hS hT h1).1
  · intro h
    obtain ⟨h1, h2, h3⟩ := hE h
    rw [h3]; exact precT (meet_ok hS hT) hT h2 hT64 (meet_le hS hT h1).2.1
  · intro h
    obtain ⟨h1, h2, h3⟩ := hE h
    rw [h3]; exact prec hU (meet_ok hS hT) hU64 h2
  · intro h1 h2; exact (str_eq2 hS hT).2 (le_anti hS hT h1 h2)
  · intro h1 h2; exact le_trans hS hT hU h1 h2
  · intro h; exact co_of_prec hS hT h
  · intro h1 h2
    rw [Bool.eq_iff_iff, str_eq2 hS hT]
    exact ⟨fun h => co_static hS hT h1 h2 h, fun h => by subst h; exact co_of_prec hS hS (le_refl hS)⟩
  · unfold meetE
    by_cases hc : allT askC S T = true
    · rw [if_pos hc]
      by_cases hl : 64 < (meetT S T).code.length
      · rw [if_pos hl]; exact .inr (.inl ⟨rfl, hc⟩)
      · rw [if_neg hl]; exact .inl ⟨rfl, hc⟩
    · rw [if_neg hc]; exact .inr (.inr ⟨rfl, by simpa using hc⟩)
  · intro h1 h2
    have hc : co S T := co_of_le hU hS hT h1 h2
    have hm := (meet_le hS hT hc).2.2 U hU h1 h2
    refine ⟨?_, hm⟩
    have := le_len hU (meet_ok hS hT) hm
    unfold meetE
    rw [if_pos (show allT askC S T = true from hc), if_neg (by omega)]
  · intro h1 h2; exact jl3 U hU h1 h2

theorem relateOrder_any (s t u : ByteArray) (w : World) (hs : s.size ≤ 4611686018427387904) (ht : t.size ≤ 4611686018427387904) (hu : u.size ≤ 4611686018427387904) :
    Calls Try.prog 6 #[.string s, .string t, .string u] w fun e w' => e = .returned (.bool true) ∧ Below w.heap.size w w' := by
  by_cases h1 : isB s = true
  · by_cases h2 : isB t = true
    · by_cases h3 : isB u = true
      · obtain ⟨S, a1, rfl, a3⟩ := isB_iff.1 h1
        obtain ⟨T, b1, rfl, b3⟩ := isB_iff.1 h2
        obtain ⟨U, c1, rfl, c3⟩ := isB_iff.1 h3
        exact order_yes S T U w a1 b1 c1 a3 b3 c3
      · exact order_no s t u w hs ht hu (.inr (.inr (by simpa using h3)))
    · exact order_no s t u w hs ht hu (.inr (.inl (by simpa using h2)))
  · exact order_no s t u w hs ht hu (.inl (by simpa using h1))
end Go.Proofs.Ythonnpjlkcjoeaa.T
