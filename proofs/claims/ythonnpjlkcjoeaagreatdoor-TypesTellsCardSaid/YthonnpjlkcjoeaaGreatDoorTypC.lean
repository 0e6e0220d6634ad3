/- Contracts: Parts, by the program and by its answer. -/
import Derived.Test.YthonnpjlkcjoeaaGreatDoorTypB
namespace Go.Proofs.YthonnpjlkcjoeaaGreatDoor.T
open Go.RowKit Go.Proofs.YthonnpjlkcjoeaaGreatDoor.B
set_option linter.unusedSimpArgs false
set_option linter.unusedVariables false

theorem isB_str {t : Ty} (h : t.ok) (h64 : t.code.length ≤ 64) : isB (str t) = true := by
  unfold isB; rw [str, bs_list, check_code h h64]; rfl
theorem isB_iff {s : ByteArray} : isB s = true ↔ ∃ t : Ty, t.ok ∧ s = str t ∧ t.code.length ≤ 64 := by
  unfold isB
  rw [beq_iff_eq, check_ok]
  constructor
  · rintro ⟨t, h1, h2, h3⟩
    refine ⟨t, h1, ?_, by rw [h2]; exact h3⟩
    apply ByteArray.ext; apply Array.toList_inj.1; rw [str, bs_list, h2]
  · rintro ⟨t, h1, rfl, h3⟩
    exact ⟨t, h1, by rw [str, bs_list], by rw [str, bs_list]; exact h3⟩

def PartsR (t : Ty) (w : World) (e : Ending) (w' : World) : Prop := ∃ v, e = .returned v ∧ w'.ownsRow w.heap.size 9 1 v t.kids.length (t.kids.map strV) ∧ Below w.heap.size w w'

theorem Parts_yes (t : Ty) (w : World) (ht : t.ok) (h64 : t.code.length ≤ 64) :
    Calls Tryz.prog 7 #[.string (str t)] w fun e w' => PartsR t w e w' := by
  have hi := is_any (str t) w (by simp [str]; omega)
  rw [isB_str ht h64] at hi
  have hp := parts_any t w ht (by omega)
  generalize str t = s at *
  go_enter Tryz.func7, Tryz.ntmps7
  go_wp2_with (first
    | (go_at_call 25; refine hi.mono ?_; rintro e w' ⟨rfl, rfl⟩)
    | (go_at_call 26; refine hp.mono ?_; rintro e w1 ⟨v, rfl, ho, hb⟩))
  go_ret
  exact ⟨v, rfl, ho, hb⟩

theorem Parts_no (s : ByteArray) (w : World) (hs : s.size ≤ 4611686018427387904) (h : isB s = false) :
    Calls Tryz.prog 7 #[.string s] w fun e w' => e = .returned (.slice none 0 0) ∧ w = w' := by
  have hi := is_any s w hs
  rw [h] at hi
  go_enter Tryz.func7, Tryz.ntmps7
  go_wp2_with (go_at_call 25; refine hi.mono ?_; rintro e w' ⟨rfl, rfl⟩)
  go_ret
  exact ⟨rfl, rfl⟩

theorem str_head (t : Ty) : ∃ h : 0 < (str t).size, (str t)[0]'h = t.head := by
  have h1 : (str t).data.toList = t.head :: t.kids.flatMap Ty.code := by rw [str, bs_list, Ty.code_eq]
  have hp : 0 < (str t).size := by rw [str, bs_size]; exact t.code_pos
  refine ⟨hp, ?_⟩
  have := drop_byte (str t) 0 hp
  rw [List.drop_zero, h1] at this
  exact ((List.cons.inj this).1).symm

set_option maxRecDepth 100000 in
theorem PartsRef_yes (t : Ty) (w : World) (ht : t.ok) (h64 : t.code.length ≤ 64) :
    Calls Tryz.prog 8 #[.string (str t)] w fun e w' => PartsR t w e w' := by
  unfold PartsR
  have hi := isR_any (str t) w (by simp [str]; omega)
  rw [isB_str ht h64] at hi
  have hah := Ty.ar_head ht
  obtain ⟨hp0, hb0⟩ := str_head t
  obtain ⟨i0, hi0, hz0, hz1, hz2⟩ := info_parts info9
  obtain ⟨K, hK⟩ : ∃ K, t.kids = K := ⟨_, rfl⟩
  obtain ⟨s, hs⟩ : ∃ s, str t = s := ⟨_, rfl⟩
  have hsz : s.size = 1 + (K.flatMap Ty.code).length := by rw [← hs, ← hK]; simp only [str, bs_size, Ty.code_eq t, List.length_cons]; omega
  have hsl : s.data.toList.drop 1 = K.flatMap Ty.code := by rw [← hs, ← hK]; simp only [str, bs_list, Ty.code_eq t, List.drop_succ_cons, List.drop_zero]
  have hok : ∀ k ∈ K, k.ok := by rw [← hK]; exact fun k hk => Ty.kids_ok ht hk
  have hk2 : K.length ≤ 2 := by rw [← hK]; cases t <;> simp [Ty.kids]
  rw [hK] at hah
  obtain ⟨c, hc⟩ : ∃ c, t.head = c := ⟨_, rfl⟩
  rw [hc] at hah hb0
  have hbs : ∃ h : 0 < s.size, s[0]'h = c := by subst hs; exact ⟨hp0, hb0⟩
  rw [hs] at hi
  rw [hK, hs]
  have h64' : s.size ≤ 4611686018427387904 := by rw [← hs]; simp only [str, bs_size]; omega
  clear hK hs ht h64 hb0 hp0 hc
  obtain ⟨hp0, hb0⟩ := hbs
  have har := fun W => arityR_any (c.toNat : Int) W
  have hah' : ar (c.toNat : Int) = K.length := hah
  rw [hah'] at har
  clear hah hah'
  have HB := Lib.hid hb0
  clear hb0
  have HZ := Lib.hid hsz
  have HL := Lib.hid hsl
  have HO := Lib.hid hok
  clear hsz hsl hok
  go_enter Tryz.func8, Tryz.ntmps8
  go_wp2_with fail
  refine hi.mono ?_
  rintro e w' ⟨rfl, rfl⟩
  go_wp2_with fail
  go_loopw [3, 4, 5] (fun l a i wr => ∃ k : Nat, k ≤ K.length ∧ i = .int .i64 k ∧ a = .int .i64 (1 + clen K k : Nat) ∧ wr.ownsRow w.heap.size 9 1 l k ((K.take k).map strV) ∧ Below w.heap.size w wr) (fun _ _ i _ => K.length - (intOf i).toNat)
  case atStart => exact ⟨0, by omega, rfl, rfl, World.ownsRow_nil _ _ _ _, Below.refl _ _⟩
  case round =>
    obtain ⟨k, hk, rfl, rfl, hown, hbel⟩ := hrel
    obtain ⟨at0, hat⟩ : ∃ n, 1 + clen K k = n := ⟨_, rfl⟩
    by_cases hlt : k < K.length
    · obtain ⟨T, hT⟩ : ∃ T, K[k]? = some T := ⟨_, List.getElem?_eq_getElem hlt⟩
      have hTp := T.code_pos
      have hdrop : s.data.toList.drop at0 = T.code ++ (K.drop (k + 1)).flatMap Ty.code := by
        rw [← hat, ← List.drop_drop, HL.out, drop_clen hT]
      have hend : at0 + T.code.length ≤ s.size := by
        have := congrArg List.length hdrop
        simp at this
        omega
      have hskip := behind_any s at0 wr (by omega) h64'
      rw [hdrop, skipN_code T (HO.out T (List.mem_of_getElem? hT))] at hskip
      have hsk0 : ∀ r, skipN r 0 = (0, true) := fun r => by cases r <;> rfl
      rw [hsk0, Nat.zero_add] at hskip
      have hex : s.extract at0 (at0 + T.code.length) = str T := by rw [extract_bs, hdrop]; simp [str]
      have hnext := clen_succ hT
      have htake := take_succ_some hT
      obtain ⟨tl, htl⟩ : ∃ tl, T.code.length = tl := ⟨_, rfl⟩
      rw [htl] at hskip hex hnext hTp hend
      have HEX := Lib.hid hex
      have HN : Hid (1 + clen K (k + 1) = at0 + tl) := by show _ = _; omega
      have HT := Lib.hid htake
      rw [hat]
      have HA := Lib.hid hat
      clear hex hnext htake hsk0 hdrop htl hat hT
      go_wp2_with (first
        | (go_at_call 28; rw [HB.out]; refine (har _).mono ?_; rintro e w' ⟨rfl, rfl⟩)
        | (go_at_call 24; refine hskip.mono ?_; rintro e w' ⟨rfl, rfl⟩)
        | (at_builtin; refine wpList_append_sl _ rfl (.tmp 24) (.tmp 29) 26 rfl w.heap.size 9 i0 _ 1 16 Tryz.underlying26 hi0 hz0 hz1 hz2 rfl (by omega) _ k _ rfl (hown.alloc _) (wr.heap.size + 1) _ 1 1 [.string (s.extract at0 (at0 + tl))] rfl (Sl.one _ _ _) ?_ ?_ ?_ ?_ ?_))
      · intro u hu; simp at hu; subst hu; rfl
      · unfold maxLen; omega
      · omega
      · have := hbel.size; simp; omega
      intro v1 w1 hown1 hg1 hat1
      rw [HEX.out] at hown1
      have hb1 : Below w.heap.size w w1 := (hbel.alloc hbel.size _).grown hg1 (by have := hbel.size; simp; omega) (fun g hg => (hown.lt g hg).1)
      clear hown hbel hskip
      go_wp2
      go_roundw
      case rel => exact ⟨k + 1, by omega, by go_num, by rw [HN.out]; go_num, by rw [HT.out]; simpa [strV] using hown1, hb1⟩
      case measure => simp [intOf]; omega
    · obtain rfl : k = K.length := by omega
      have hend : s.size ≤ at0 := by rw [HZ.out, ← hat, clen_all]; omega
      rw [hat]
      have HA := Lib.hid hat
      clear hat
      go_wp2_with (go_at_call 28; rw [HB.out]; refine (har _).mono ?_; rintro e w' ⟨rfl, rfl⟩)
      go_ret
      exact ⟨_, rfl, by simpa using hown, hbel⟩

end Go.Proofs.YthonnpjlkcjoeaaGreatDoor.T
