/- Contract: Height. -/
import Derived.Test.YthonnpjlkcjoeaaGreatDoorTypC
import Derived.Deep.LoopGhost
namespace Go.Proofs.YthonnpjlkcjoeaaGreatDoor.T
open Go.RowKit Go.Proofs.YthonnpjlkcjoeaaGreatDoor.B
set_option linter.unusedSimpArgs false
set_option linter.unusedVariables false

/-- The highest of the first j. -/
def hiN (K : List Ty) : Nat → Nat
  | 0 => 0
  | j + 1 => max (hiN K j) (match K[j]? with | some k => k.high | none => 0)
theorem hiN_le (K : List Ty) (B : Nat) (h : ∀ k ∈ K, k.high ≤ B) (j : Nat) : hiN K j ≤ B := by
  induction j with
  | zero => simp [hiN]
  | succ j ih =>
    simp only [hiN]
    rcases hj : K[j]? with _ | k
    · simp only; omega
    · have := h k (List.mem_of_getElem? hj)
      simp only; omega
theorem high_kids (T : Ty) : T.high = hiN T.kids T.kids.length + 1 := by
  cases T <;> simp [Ty.high, Ty.kids, hiN]
theorem high_le (T : Ty) : T.high ≤ T.code.length := by
  induction T with
  | leaf a => simp [Ty.high, Ty.code]
  | un a t ih => simp [Ty.high, Ty.code]; omega
  | bin a t u ih ih' => simp [Ty.high, Ty.code]; omega

theorem Height_no (s : ByteArray) (w : World) (hs : s.size ≤ 4611686018427387904) (hb : isB s = false) :
    Calls Tryz.prog 18 #[.string s] w fun e w' => e = .returned (.int .i64 0) ∧ w = w' := by
  have hi := fun W => is_any s W hs
  rw [hb] at hi
  go_enter Tryz.func18, Tryz.ntmps18
  go_wp2_with fail
  refine (hi _).mono ?_
  rintro e w' ⟨rfl, rfl⟩
  go_wp2_with fail
  go_ret
  exact ⟨rfl, rfl⟩

set_option maxRecDepth 100000 in
theorem Height_any (fuel : Nat) : ∀ (T : Ty) (w : World) (hf : T.code.length ≤ fuel) (hT : T.ok) (hT64 : T.code.length ≤ 64),
    Calls Tryz.prog 18 #[.string (str T)] w fun e w' => e = .returned (.int .i64 T.high) ∧ Below w.heap.size w w' := by
  induction fuel with
  | zero => intro T w hf; have := T.code_pos; omega
  | succ fuel ih =>
  intro T w hf hT hT64
  have IH := Lib.hid ih
  have hi := fun W => is_any (str T) W (by simp only [str, bs_size]; omega)
  rw [isB_str hT hT64] at hi
  have hP := fun W => parts_any T W hT (by omega)
  have hh := high_kids T
  have hkid : ∀ k ∈ T.kids, k.ok ∧ k.code.length ≤ fuel ∧ k.code.length ≤ 64 := fun k hk => by
    have := Ty.kid_code hk
    exact ⟨Ty.kids_ok hT hk, by omega, by omega⟩
  have hm := fun j => hiN_le T.kids 64 (fun k hk => by have := high_le k; have := (hkid k hk).2.2; omega) j
  have hK2 := Ty.kids_le T
  obtain ⟨K, hK⟩ : ∃ K, T.kids = K := ⟨_, rfl⟩
  obtain ⟨s, hs⟩ : ∃ s, str T = s := ⟨_, rfl⟩
  rw [hK] at hP hh hkid hm hK2
  rw [hs] at hi hP ⊢
  rw [hh]
  have HKID := Lib.hid hkid
  have HM := Lib.hid hm
  clear ih hh hkid hm hK hs hT hT64 hf
  go_enter Tryz.func18, Tryz.ntmps18
  go_wp2_with fail
  refine (hi _).mono ?_
  rintro e w' ⟨rfl, rfl⟩
  go_wp2_with fail
  refine (hP _).mono ?_
  rintro e w1 ⟨v, rfl, ho, hb⟩
  obtain ⟨A, c, rfl, _, _⟩ := own_shape ho
  clear hi hP
  go_wp2_with fail
  go_loopg [3, 12] K.length (fun g m i wr => ∃ j : Nat, j ≤ K.length ∧ g = K.length - j ∧ m = .int .i64 (hiN K j) ∧ i = .int .i64 j ∧ wr.ownsRow w.heap.size 9 1 (.slice A K.length c) K.length (K.map strV) ∧ Below w.heap.size w wr)
  case atStart => exact ⟨0, by omega, rfl, rfl, rfl, ho, hb⟩
  case round =>
    obtain ⟨j, hj, rfl, rfl, rfl, ho, hb⟩ := hrel
    have hmj := HM.out j
    by_cases hlt : j < K.length
    · obtain ⟨k, hk⟩ : ∃ k, K[j]? = some k := ⟨_, List.getElem?_eq_getElem hlt⟩
      obtain ⟨g, rfl, hg1, hg2, hcell⟩ := own_cell ho hlt
      have hc1 := hcell (.string (str k)) (by rw [List.getElem?_map, hk]; rfl)
      obtain ⟨kok, kf, k64⟩ := HKID.out k (List.mem_of_getElem? hk)
      have hcall := fun W => IH.out k W kf kok k64
      have hnx : hiN K (j + 1) = max (hiN K j) k.high := by simp only [hiN, hk]
      have hkh : k.high ≤ 64 := by have := high_le k; omega
      obtain ⟨p, hp⟩ : ∃ p, str k = p := ⟨_, rfl⟩
      rw [hp] at hc1 hcall
      obtain ⟨x, hx⟩ : ∃ x, hiN K j = x := ⟨_, rfl⟩
      obtain ⟨y, hy⟩ : ∃ y, k.high = y := ⟨_, rfl⟩
      rw [hx] at hnx hmj ⊢
      rw [hy] at hnx hcall hkh
      have HN := Lib.hid hnx
      clear hp hk hnx hx hy hcell
      go_wp2_with fail
      refine (hcall _).mono ?_
      rintro e w2 ⟨rfl, hb2⟩
      have ho2 := own_below ho hb2
      clear ho
      go_wp2_with fail
      all_goals
        go_roundg (K.length - (j + 1))
        case measure => omega
        case rel => exact ⟨j + 1, by omega, rfl, by rw [HN.out]; first | rw [Nat.max_eq_right (by omega)] | rw [Nat.max_eq_left (by omega)], by go_num, ho2, bl hb hb2⟩
    · obtain rfl : j = K.length := by omega
      go_wp2_with fail
      go_ret
      exact ⟨by go_num, hb⟩

end Go.Proofs.YthonnpjlkcjoeaaGreatDoor.T
