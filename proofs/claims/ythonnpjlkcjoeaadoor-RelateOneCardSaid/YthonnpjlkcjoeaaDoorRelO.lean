/- Contracts: Ground, Looser. -/
import Derived.Test.YthonnpjlkcjoeaaDoorRelM
import Derived.Test.YthonnpjlkcjoeaaDoorRelN
import Derived.Test.YthonnpjlkcjoeaaDoorShelf
import Derived.Deep.RegionWith
import Derived.Deep.RegionLaw
namespace Go.Proofs.YthonnpjlkcjoeaaDoor.T
open Go.RowKit Go.Proofs.YthonnpjlkcjoeaaDoor.B
set_option linter.unusedSimpArgs false
set_option linter.unusedVariables false

theorem repeatL_q (n : Nat) : Lib.repeatL [63] n = List.replicate n 63 := by
  induction n with
  | zero => rfl
  | succ n ih => simp [Lib.repeatL, ih, List.replicate_succ]

set_option maxHeartbeats 1000000 in
theorem ground_any (T : Ty) (w : World) (hT : T.ok) (hT64 : T.code.length ≤ 64) (hq : T.head ≠ 63) :
    Calls Tryd.prog 73 #[.string (str T)] w fun e w' => e = .returned (.string (bs (groundL T))) ∧ Below w.heap.size w w' := by
  have hi := fun W => is_any (str T) W (by simp only [str, bs_size]; omega)
  rw [isB_str hT hT64] at hi
  have hf := str_first T
  have hsz : 1 ≤ (str T).size := by simp only [str, bs_size]; exact T.code_pos
  obtain ⟨p1, e1⟩ := str_head T
  have hah := Ty.ar_head hT
  have hk := Ty.kids_le T
  have hb : ((T.head.toNat : Int) == 63) = false := by rw [q63, byte_eq]; simpa using hq
  have hg : groundL T = T.head :: List.replicate T.kids.length 63 := by unfold groundL; rw [if_neg hq, hah]; rfl
  have har := fun W => arity_any (T.head.toNat : Int) W
  have hah' : ar (T.head.toNat : Int) = T.kids.length := hah
  rw [hah'] at har
  have hrep := fun W => Tryd.strings_Repeat ⟨#[63]⟩ T.kids.length W (by omega) (by show 1 * _ ≤ _; omega)
  rw [show (⟨#[63]⟩ : ByteArray).data.toList = [63] from rfl, repeatL_q] at hrep
  rw [hg]
  have hcat : bs [T.head] ++ bs (List.replicate T.kids.length 63) = bs (T.head :: List.replicate T.kids.length 63) := by rw [bs_append]; rfl
  have hrz : (bs (List.replicate T.kids.length 63)).size ≤ 2 := by rw [bs_size, List.length_replicate]; exact hk
  change ∀ W, Calls _ _ _ _ (fun e w' => e = .returned (.string (bs (List.replicate T.kids.length 63))) ∧ _) at hrep
  obtain ⟨m, hm⟩ : ∃ m, T.kids.length = m := ⟨_, rfl⟩
  obtain ⟨a, ha⟩ : ∃ a, T.head = a := ⟨_, rfl⟩
  obtain ⟨s, hs⟩ : ∃ s, str T = s := ⟨_, rfl⟩
  have hbs : ∃ h : 0 < s.size, s[0]'h = a := by subst hs; exact ⟨p1, by rw [e1, ha]⟩
  rw [hm, ha] at hcat ⊢
  rw [hm] at hrep har hrz hk
  rw [ha] at har hb
  rw [hs] at hi hf hsz ⊢
  rw [ha] at hf
  clear p1 e1
  obtain ⟨p1, e1⟩ := hbs
  generalize bs (List.replicate m 63) = r at *
  have HF := Lib.hid hf
  have HC := Lib.hid hcat
  have hoz : (bs [a]).size ≤ 1 := by rw [bs_size]; simp
  generalize bs [a] = o at *
  clear hf hcat hs hm ha hg hah hah' hq hT hT64
  go_enter Tryd.func73, Tryd.ntmps73
  go_wp2_with fail
  refine (hi _).mono ?_
  rintro e w' ⟨rfl, rfl⟩
  go_wp2_with fail
  have hf2 := HF.out
  go_region_with (first | (go_at_call 80; refine (har _).mono ?_; rintro e w' ⟨rfl, rfl⟩) | (go_at_call 93; refine (hrep _).mono ?_; rintro e w1 ⟨rfl, hb1⟩))
  all_goals
    go_wp2_with fail
    go_ret
    exact ⟨by rw [← HC.out]; rfl, ((Below.refl w.heap.size w).drew).trans hb1⟩

def LooserR (T : Ty) (w : World) (e : Ending) (w' : World) : Prop := ∃ v, e = .returned v ∧ OwnTs w' w.heap.size v (looserT T) ∧ Below w.heap.size w w'

theorem Looser_no (s : ByteArray) (w : World) (hs : s.size ≤ 4611686018427387904) (hb : isB s = false) :
    Calls Tryd.prog 32 #[.string s] w fun e w' => e = .returned (.slice none 0 0) ∧ w = w' := by
  have hi := fun W => isRel_any s W hs
  rw [hb] at hi
  go_enter Tryd.func32, Tryd.ntmps32
  go_wp2_with fail
  refine (hi _).mono ?_
  rintro e w' ⟨rfl, rfl⟩
  go_wp2_with fail
  go_ret
  exact ⟨rfl, rfl⟩

theorem bs_inj {a b : List UInt8} (h : bs a = bs b) : a = b := by rw [← bs_list a, h, bs_list]
theorem str_ground {T : Ty} (h : T.ok) (hq : T.head ≠ 63) : ((str T).toList == (bs (groundL T)).toList) = bare T := by
  rw [Lib.toList_data, Lib.toList_data, str, bs_list, bs_list, Bool.eq_iff_iff, beq_iff_eq]
  exact code_ground h hq

set_option maxRecDepth 100000 in
theorem Looser_easy (T : Ty) (w : World) (hT : T.ok) (hT64 : T.code.length ≤ 64) (hc : T.head = 63 ∨ bare T = true) :
    Calls Tryd.prog 32 #[.string (str T)] w fun e w' => LooserR T w e w' := by
  have hi := fun W => isRel_any (str T) W (by simp only [str, bs_size]; omega)
  rw [isB_str hT hT64] at hi
  have q2 := str_q hT
  unfold LooserR OwnTs
  by_cases hq : T.head = 63
  · rw [hq] at q2
    have q2' : ((str T).toList == [63]) = true := q2
    rw [looser_dyn hT hq]
    generalize str T = s at *
    clear hq q2 hc hT hT64
    go_enter Tryd.func32, Tryd.ntmps32
    go_wp2_with fail
    refine (hi _).mono ?_
    rintro e w' ⟨rfl, rfl⟩
    go_wp2_with fail
    go_ret
    exact ⟨_, rfl, World.ownsRow_nil _ _ _ _, b0⟩
  · have q2' : ((str T).toList == [63]) = false := by rw [q2]; simpa using hq
    have hb := hc.resolve_left hq
    have hg := fun W => ground_any T W hT hT64 hq
    have hs := str_ground hT hq
    rw [hb] at hs
    rw [looser_bare hT hq hb]
    generalize bs (groundL T) = g at *
    generalize str T = s at *
    clear hq q2 hc hT hT64 hb
    show Calls _ _ _ _ (fun e w' => ∃ v, e = .returned v ∧ w'.ownsRow w.heap.size 9 1 v 1 [strV dyn] ∧ Below w.heap.size w w')
    go_enter Tryd.func32, Tryd.ntmps32
    go_wp2_with fail
    refine (hi _).mono ?_
    rintro e w' ⟨rfl, rfl⟩
    go_wp2_with fail
    refine (hg _).mono ?_
    rintro e w1 ⟨rfl, hb1⟩
    go_wp2_with fail
    go_ret
    exact ⟨_, rfl, own_less (own_one w1) hb1.size, bal hb1 _⟩

end Go.Proofs.YthonnpjlkcjoeaaDoor.T
