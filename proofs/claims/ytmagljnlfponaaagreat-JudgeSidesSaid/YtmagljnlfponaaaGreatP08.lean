/- Parts of this claim: GrnD. -/
import Derived.Deep.RegionWith
import Derived.Deep.RegionLaw
import Derived.Test.YtmagljnlfponaaaGreatP00
import Derived.Test.YtmagljnlfponaaaGreatP01
import Derived.Test.YtmagljnlfponaaaGreatP04
import Derived.Test.YtmagljnlfponaaaGreatP07
set_option linter.unusedVariables false
set_option linter.unusedSimpArgs false
/- GrnD -/
namespace Go.Proofs.YtmagljnlfponaaaGreat.T
open Go.RowKit Go.Proofs.YtmagljnlfponaaaGreat.B
set_option linter.unusedSimpArgs false
set_option linter.unusedVariables false

theorem q63 : (63 : Int) = ((63 : UInt8).toNat : Int) := rfl

theorem bs_append (a b : List UInt8) : bs a ++ bs b = bs (a ++ b) := by
  apply ByteArray.ext
  apply Array.toList_inj.1
  simp [bs]
theorem str_first (t : Ty) : (str t).extract 0 1 = bs [t.head] := by
  rw [extract_bs, str, bs_list, Ty.code_eq]; rfl

theorem Head_yes (t : Ty) (w : World) (ht : t.ok) (h64 : t.code.length ≤ 64) :
    Calls Tryz.prog 90 #[.string (str t)] w fun e w' => e = .returned (.int .u8 t.head.toNat) ∧ w = w' := by
  have hi := is_any (str t) w (by simp [str]; omega)
  rw [isB_str ht h64] at hi
  obtain ⟨c, hc⟩ : ∃ c, t.head = c := ⟨_, rfl⟩
  obtain ⟨hp0, hb0⟩ := str_head t
  rw [hc] at hb0 ⊢
  generalize str t = s at *
  clear ht h64 hc
  go_enter Tryz.func90, Tryz.ntmps90
  go_wp2_with fail
  refine hi.mono ?_
  rintro e w' ⟨rfl, rfl⟩
  go_wp2_with fail
  go_ret
  exact ⟨rfl, rfl⟩
theorem repeatL_q (n : Nat) : Lib.repeatL [63] n = List.replicate n 63 := by
  induction n with
  | zero => rfl
  | succ n ih => simp [Lib.repeatL, ih, List.replicate_succ]

set_option maxHeartbeats 1000000 in
theorem ground_any (T : Ty) (w : World) (hT : T.ok) (hT64 : T.code.length ≤ 64) (hq : T.head ≠ 63) :
    Calls Tryz.prog 96 #[.string (str T)] w fun e w' => e = .returned (.string (bs (groundL T))) ∧ Below w.heap.size w w' := by
  have hi := fun W => is_any (str T) W (by simp only [str, bs_size]; omega)
  rw [isB_str hT hT64] at hi
  have hf := str_first T
  have hsz : 1 ≤ (str T).size := by simp only [str, bs_size]; exact T.code_pos
  obtain ⟨p1, e1⟩ := str_head T
  have hah := Ty.ar_head hT
  have hk := Ty.kids_le T
  have hb : ((T.head.toNat : Int) == 63) = false := by rw [q63, byte_eq]; simpa using hq
  have hg : groundL T = T.head :: List.replicate T.kids.length 63 := by unfold groundL; rw [if_neg hq, hah]; rfl
  have har := fun W => arity_any (T.head.toNat : Int) W
  have hah' : ar (T.head.toNat : Int) = T.kids.length := hah
  rw [hah'] at har
  have hrep := fun W => Tryz.strings_Repeat ⟨#[63]⟩ T.kids.length W (by omega) (by show 1 * _ ≤ _; omega)
  rw [show (⟨#[63]⟩ : ByteArray).data.toList = [63] from rfl, repeatL_q] at hrep
  rw [hg]
  have hcat : bs [T.head] ++ bs (List.replicate T.kids.length 63) = bs (T.head :: List.replicate T.kids.length 63) := by rw [bs_append]; rfl
  have hrz : (bs (List.replicate T.kids.length 63)).size ≤ 2 := by rw [bs_size, List.length_replicate]; exact hk
  change ∀ W, Calls _ _ _ _ (fun e w' => e = .returned (.string (bs (List.replicate T.kids.length 63))) ∧ _) at hrep
  obtain ⟨m, hm⟩ : ∃ m, T.kids.length = m := ⟨_, rfl⟩
  obtain ⟨a, ha⟩ : ∃ a, T.head = a := ⟨_, rfl⟩
  obtain ⟨s, hs⟩ : ∃ s, str T = s := ⟨_, rfl⟩
  have hbs : ∃ h : 0 < s.size, s[0]'h = a := by subst hs; exact ⟨p1, by rw [e1, ha]⟩
  rw [hm, ha] at hcat ⊢
  rw [hm] at hrep har hrz hk
  rw [ha] at har hb
  rw [hs] at hi hf hsz ⊢
  rw [ha] at hf
  clear p1 e1
  obtain ⟨p1, e1⟩ := hbs
  generalize bs (List.replicate m 63) = r at *
  have HF := Lib.hid hf
  have HC := Lib.hid hcat
  have hoz : (bs [a]).size ≤ 1 := by rw [bs_size]; simp
  generalize bs [a] = o at *
  clear hf hcat hs hm ha hg hah hah' hq hT hT64
  go_enter Tryz.func96, Tryz.ntmps96
  go_wp2_with fail
  refine (hi _).mono ?_
  rintro e w' ⟨rfl, rfl⟩
  go_wp2_with fail
  have hf2 := HF.out
  go_region_with (first | (go_at_call 108; refine (har _).mono ?_; rintro e w' ⟨rfl, rfl⟩) | (go_at_call 107; refine (hrep _).mono ?_; rintro e w1 ⟨rfl, hb1⟩))
  all_goals
    go_wp2_with fail
    go_ret
    exact ⟨by rw [← HC.out]; rfl, ((Below.refl w.heap.size w).drew).trans hb1⟩

end Go.Proofs.YtmagljnlfponaaaGreat.T
