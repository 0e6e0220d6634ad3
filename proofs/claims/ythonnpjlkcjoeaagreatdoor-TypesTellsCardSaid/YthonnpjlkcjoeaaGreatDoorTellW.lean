/- Contracts: Words, by the answer. -/
import Derived.Test.YthonnpjlkcjoeaaGreatDoorTellR
import Derived.Test.YthonnpjlkcjoeaaGreatDoorPenX
namespace Go.Proofs.YthonnpjlkcjoeaaGreatDoor.T
open Go.RowKit Go.Proofs.YthonnpjlkcjoeaaGreatDoor.B
set_option linter.unusedSimpArgs false
set_option linter.unusedVariables false

abbrev WordsC (T : Ty) : Prop := ∀ W, Calls Tryz.prog 31 #[.string (str T)] W fun e w' => e = .returned (.string (bs (wordsT T))) ∧ Below W.heap.size W w'
abbrev WrapC (T : Ty) : Prop := ∀ W, Calls Tryz.prog 56 #[.string (str T)] W fun e w' => e = .returned (.string (bs (wrapT T))) ∧ Below W.heap.size W w'

theorem wrapT_len (T : Ty) : (wrapT T).length ≤ 16 * T.code.length + 2 := by
  have := (wordsT_len T).2
  unfold wrapT parW
  split
  · simp; omega
  · omega
theorem cat3 (a b c : List UInt8) : bs a ++ bs b ++ bs c = bs (a ++ (b ++ c)) := by rw [bs_append, bs_append, List.append_assoc]

theorem wrapR_any (T : Ty) (hT64 : T.code.length ≤ 64) (H : WordsC T) : WrapC T := by
  intro w
  have hl := (wordsT_len T).2
  have hH := H
  obtain ⟨p1, e1⟩ := str_head T
  have hb : ((T.head.toNat : Int) == 62) = (T.head == 62) := by rw [show (62 : Int) = ((62 : UInt8).toNat : Int) from rfl, byte_eq]
  have hw : wrapT T = parW (T.head == 62) (wordsT T) := rfl
  rw [hw]
  obtain ⟨b, hbb⟩ : ∃ b, (T.head == 62) = b := ⟨_, rfl⟩
  rw [hbb] at hb ⊢
  have hz : (bs (wordsT T)).size ≤ 1024 := by rw [bs_size]; omega
  have hc : (⟨#[40]⟩ : ByteArray) ++ bs (wordsT T) ++ ⟨#[41]⟩ = bs (40 :: (wordsT T ++ [41])) := cat3 [40] (wordsT T) [41]
  unfold WordsC at hH
  have HC := Lib.hid hc
  clear hc hw hbb
  generalize str T = s at *
  generalize T.head = a at *
  cases b
  · have hp : parW false (wordsT T) = wordsT T := rfl
    rw [hp]
    generalize bs (wordsT T) = x at *
    clear hl HC H hT64
    go_enter Tryz.func56, Tryz.ntmps56
    go_wp2_with fail
    refine (hH _).mono ?_
    rintro e w1 ⟨rfl, hb1⟩
    go_wp2_with fail
    go_ret
    exact ⟨rfl, hb1⟩
  · have hp : parW true (wordsT T) = 40 :: (wordsT T ++ [41]) := rfl
    rw [hp]
    generalize bs (40 :: (wordsT T ++ [41])) = y at *
    generalize bs (wordsT T) = x at *
    have s1 := fun W => run_string_add_sum (P := Tryz.prog) W ⟨#[40]⟩ x (by show 1 + _ ≤ _; omega)
    have s2 := fun W => run_string_add_sum (P := Tryz.prog) W (⟨#[40]⟩ ++ x) ⟨#[41]⟩ (by rw [ByteArray.size_append]; show 1 + _ + 1 ≤ _; omega)
    clear hl H hT64
    go_enter Tryz.func56, Tryz.ntmps56
    go_wp2_with fail
    refine (hH _).mono ?_
    rintro e w1 ⟨rfl, hb1⟩
    go_wp2_with fail
    go_ret
    exact ⟨by rw [← HC.out]; rfl, hb1⟩

set_option maxRecDepth 100000 in
theorem wordsR_leaf (c : UInt8) (hT : (Ty.leaf c).ok) : WordsC (.leaf c) := by
  intro w
  have hP := fun W => PartsRef_yes (.leaf c) W hT (by simp [Ty.code])
  unfold PartsR at hP
  obtain ⟨p1, e1⟩ := str_head (.leaf c)
  have ha : arB c = 0 := hT
  have hc : c = 105 ∨ c = 98 ∨ c = 116 ∨ c = 63 := by
    have h1 : ar (c.toNat : Int) = 0 := ha
    unfold ar at h1
    split at h1
    · rename_i h2
      rcases h2 with h2 | h2 | h2 | h2
      · left; apply UInt8.toNat_inj.1; show c.toNat = 105; omega
      · right; left; apply UInt8.toNat_inj.1; show c.toNat = 98; omega
      · right; right; left; apply UInt8.toNat_inj.1; show c.toNat = 116; omega
      · right; right; right; apply UInt8.toNat_inj.1; show c.toNat = 63; omega
    · split at h1
      · omega
      · split at h1 <;> omega
  change (str (.leaf c))[0] = c at e1
  generalize str (.leaf c) = s at *
  clear ha hT
  rcases hc with rfl | rfl | rfl | rfl
  all_goals
    go_enter Tryz.func31, Tryz.ntmps31
    go_wp2_with fail
    refine (hP _).mono ?_
    rintro e w1 ⟨v, rfl, ho, hb⟩
    go_wp2_with fail
    go_ret
    exact ⟨rfl, hb⟩

set_option maxRecDepth 100000 in
set_option maxHeartbeats 1000000 in
theorem wordsR_un (c : UInt8) (a : Ty) (hT : (Ty.un c a).ok) (hT64 : (Ty.un c a).code.length ≤ 64) (H1 : WordsC a) (H2 : WrapC a) : WordsC (.un c a) := by
  intro w
  have hP := fun W => PartsRef_yes (.un c a) W hT hT64
  unfold PartsR at hP
  obtain ⟨p1, e1⟩ := str_head (.un c a)
  have ha : arB c = 1 := hT.1
  have hc : c = 108 ∨ c = 120 := by
    have h1 : ar (c.toNat : Int) = 1 := ha
    unfold ar at h1
    split at h1
    · omega
    · split at h1
      · rename_i h2
        rcases h2 with h2 | h2
        · left; apply UInt8.toNat_inj.1; show c.toNat = 108; omega
        · right; apply UInt8.toNat_inj.1; show c.toNat = 120; omega
      · split at h1 <;> omega
  have hla := (wordsT_len a).2
  have hlw := wrapT_len a
  have hca : a.code.length ≤ 64 := by simp [Ty.code] at hT64; omega
  change (str (.un c a))[0] = c at e1
  have hz : (bs (wordsT a)).size ≤ 1026 := by rw [bs_size]; omega
  have hz2 : (bs (wrapT a)).size ≤ 1026 := by rw [bs_size]; omega
  have hc1 : (⟨#[91]⟩ : ByteArray) ++ bs (wordsT a) ++ ⟨#[93]⟩ = bs (91 :: (wordsT a ++ [93])) := cat3 [91] (wordsT a) [93]
  have hc2 : (⟨#[98, 111, 120, 32]⟩ : ByteArray) ++ bs (wrapT a) = bs (wX ++ 32 :: wrapT a) := bs_append [98, 111, 120, 32] (wrapT a)
  have hk : (Ty.un c a).kids = [a] := rfl
  rw [hk] at hP
  simp only [List.length_cons, List.length_nil, List.map_cons, List.map_nil] at hP
  unfold WordsC at H1
  unfold WrapC at H2
  have HC1 := Lib.hid hc1
  have HC2 := Lib.hid hc2
  clear hc1 hc2 ha hT hk hla hlw
  generalize str (.un c a) = s at *
  have hsa : strV a = .string (str a) := rfl
  rw [hsa] at hP
  generalize str a = sa at *
  rcases hc with rfl | rfl
  · show Calls _ _ _ _ (fun e w' => e = .returned (.string (bs (91 :: (wordsT a ++ [93])))) ∧ _)
    generalize bs (91 :: (wordsT a ++ [93])) = y at *
    generalize bs (wordsT a) = x at *
    have s1 := fun W => run_string_add_sum (P := Tryz.prog) W ⟨#[91]⟩ x (by show 1 + _ ≤ _; omega)
    have s2 := fun W => run_string_add_sum (P := Tryz.prog) W (⟨#[91]⟩ ++ x) ⟨#[93]⟩ (by rw [ByteArray.size_append]; show 1 + _ + 1 ≤ _; omega)
    clear H2 HC2 hz2 hT64
    go_enter Tryz.func31, Tryz.ntmps31
    go_wp2_with fail
    refine (hP _).mono ?_
    rintro e w1 ⟨v, rfl, ho, hb⟩
    obtain ⟨A, cp, rfl, _, _⟩ := own_shape ho
    obtain ⟨g, rfl, _, _, hcell⟩ := own_cell ho (by omega : 0 < 1)
    have c0 := hcell _ rfl
    clear hcell
    go_wp2_with fail
    refine (H1 _).mono ?_
    rintro e w2 ⟨rfl, hb2⟩
    go_wp2_with fail
    go_ret
    exact ⟨by rw [← HC1.out]; rfl, bl hb hb2⟩
  · show Calls _ _ _ _ (fun e w' => e = .returned (.string (bs (wX ++ 32 :: wrapT a))) ∧ _)
    generalize bs (wX ++ 32 :: wrapT a) = y at *
    generalize bs (wrapT a) = x at *
    have s1 := fun W => run_string_add_sum (P := Tryz.prog) W ⟨#[98, 111, 120, 32]⟩ x (by show 4 + _ ≤ _; omega)
    clear H1 HC1 hz hT64
    go_enter Tryz.func31, Tryz.ntmps31
    go_wp2_with fail
    refine (hP _).mono ?_
    rintro e w1 ⟨v, rfl, ho, hb⟩
    obtain ⟨A, cp, rfl, _, _⟩ := own_shape ho
    obtain ⟨g, rfl, _, _, hcell⟩ := own_cell ho (by omega : 0 < 1)
    have c0 := hcell _ rfl
    clear hcell
    go_wp2_with fail
    refine (H2 _).mono ?_
    rintro e w2 ⟨rfl, hb2⟩
    go_wp2_with fail
    go_ret
    exact ⟨by rw [← HC2.out]; rfl, bl hb hb2⟩

set_option maxRecDepth 100000 in
set_option maxHeartbeats 2000000 in
theorem wordsR_bin (c : UInt8) (a b : Ty) (hT : (Ty.bin c a b).ok) (hT64 : (Ty.bin c a b).code.length ≤ 64) (H1 : WordsC a) (H2 : WrapC a) (H3 : WordsC b) : WordsC (.bin c a b) := by
  intro w
  have hP := fun W => PartsRef_yes (.bin c a b) W hT hT64
  unfold PartsR at hP
  obtain ⟨p1, e1⟩ := str_head (.bin c a b)
  have ha : arB c = 2 := hT.1
  have hc : c = 62 ∨ c = 44 := by
    have h1 : ar (c.toNat : Int) = 2 := ha
    unfold ar at h1
    split at h1
    · omega
    · split at h1
      · omega
      · split at h1
        · rename_i h2
          rcases h2 with h2 | h2
          · left; apply UInt8.toNat_inj.1; show c.toNat = 62; omega
          · right; apply UInt8.toNat_inj.1; show c.toNat = 44; omega
        · omega
  have hla := (wordsT_len a).2
  have hlb := (wordsT_len b).2
  have hlw := wrapT_len a
  have hca : a.code.length ≤ 64 ∧ b.code.length ≤ 64 := by simp [Ty.code] at hT64; omega
  change (str (.bin c a b))[0] = c at e1
  have hz : (bs (wordsT a)).size ≤ 1026 := by rw [bs_size]; omega
  have hz2 : (bs (wrapT a)).size ≤ 1026 := by rw [bs_size]; omega
  have hz3 : (bs (wordsT b)).size ≤ 1026 := by rw [bs_size]; omega
  have hc1 : bs (wrapT a) ++ (⟨#[32, 45, 62, 32]⟩ : ByteArray) ++ bs (wordsT b) = bs (wrapT a ++ ([32, 45, 62, 32] ++ wordsT b)) := cat3 (wrapT a) [32, 45, 62, 32] (wordsT b)
  have hc2 : (⟨#[40]⟩ : ByteArray) ++ bs (wordsT a) ++ ⟨#[44, 32]⟩ ++ bs (wordsT b) ++ ⟨#[41]⟩ = bs (40 :: (wordsT a ++ ([44, 32] ++ (wordsT b ++ [41])))) := by
    have e1 : (⟨#[40]⟩ : ByteArray) = bs [40] := rfl
    have e2 : (⟨#[44, 32]⟩ : ByteArray) = bs [44, 32] := rfl
    have e3 : (⟨#[41]⟩ : ByteArray) = bs [41] := rfl
    rw [e1, e2, e3, bs_append, bs_append, bs_append, bs_append]
    simp
  have hk : (Ty.bin c a b).kids = [a, b] := rfl
  rw [hk] at hP
  simp only [List.length_cons, List.length_nil, List.map_cons, List.map_nil] at hP
  have h1 := fun W => H1 W
  have h2 := fun W => H2 W
  have h3 := fun W => H3 W
  have HC1 := Lib.hid hc1
  have HC2 := Lib.hid hc2
  clear hc1 hc2 ha hT hk hla hlw hlb H1 H2 H3
  generalize str (.bin c a b) = s at *
  have hsa : strV a = .string (str a) := rfl
  have hsb : strV b = .string (str b) := rfl
  rw [hsa, hsb] at hP
  generalize str a = sa at *
  generalize str b = sb at *
  rcases hc with rfl | rfl
  · show Calls _ _ _ _ (fun e w' => e = .returned (.string (bs (wrapT a ++ ([32, 45, 62, 32] ++ wordsT b)))) ∧ _)
    generalize bs (wrapT a ++ ([32, 45, 62, 32] ++ wordsT b)) = y at *
    generalize bs (wrapT a) = x at *
    generalize bs (wordsT b) = z at *
    have s1 := fun W => run_string_add_sum (P := Tryz.prog) W x ⟨#[32, 45, 62, 32]⟩ (by show _ + 4 ≤ _; omega)
    have s2 := fun W => run_string_add_sum (P := Tryz.prog) W (x ++ ⟨#[32, 45, 62, 32]⟩) z (by rw [ByteArray.size_append]; show _ + 4 + _ ≤ _; omega)
    have h2' := Lib.hid h2
    have h3' := Lib.hid h3
    clear h1 h2 h3 HC2 hz hT64
    go_enter Tryz.func31, Tryz.ntmps31
    go_wp2_with fail
    refine (hP _).mono ?_
    rintro e w1 ⟨v, rfl, ho, hb⟩
    obtain ⟨A, cp, rfl, _, _⟩ := own_shape ho
    obtain ⟨g, rfl, _, hgw, hcell⟩ := own_cell ho (by omega : 0 < 2)
    obtain ⟨g', e2, _, _, hcell'⟩ := own_cell ho (by omega : 1 < 2)
    injection e2 with e2
    injection e2 with e2
    subst e2
    have c0 := hcell _ rfl
    have c1 := hcell' _ rfl
    have HF : Hid (∀ W, Below w1.heap.size w1 W → W.cell? ⟨g, 0, none⟩ = some (.string sa) ∧ W.cell? ⟨g, 1, none⟩ = some (.string sb)) :=
      Lib.hid fun W h => ⟨(h.cell (p := ⟨g, 0, none⟩) hgw).trans c0, (h.cell (p := ⟨g, 1, none⟩) hgw).trans c1⟩
    clear hcell hcell' hP
    go_wp2_with fail
    go_region_with (first
      | (go_at_call 56; refine (h2'.out _).mono ?_; rintro e wa ⟨rfl, ha⟩; have hq : Below w1.heap.size w1 wa := (by first | exact bl hp ha | exact Below.trans (Below.refl _ _).drew ha | exact ha); obtain ⟨k0, k1⟩ := HF.out wa hq)
      | (go_at_call 31; refine (h3'.out _).mono ?_; rintro e wb ⟨rfl, ha⟩; have hp : Below w1.heap.size w1 wb := (by first | exact bl hq ha | exact Below.trans (Below.refl _ _).drew ha | exact ha); obtain ⟨k0, k1⟩ := HF.out wb hp))
    all_goals
      go_wp2_with fail
      go_ret
      exact ⟨by rw [← HC1.out]; rfl, by first | exact bl hb (bl hp (Below.refl _ _)) | exact bl hb (bl hq (Below.refl _ _))⟩
  · show Calls _ _ _ _ (fun e w' => e = .returned (.string (bs (40 :: (wordsT a ++ ([44, 32] ++ (wordsT b ++ [41])))))) ∧ _)
    generalize bs (40 :: (wordsT a ++ ([44, 32] ++ (wordsT b ++ [41])))) = y at *
    generalize bs (wordsT a) = x at *
    generalize bs (wordsT b) = z at *
    have s1 := fun W => run_string_add_sum (P := Tryz.prog) W ⟨#[40]⟩ x (by show 1 + _ ≤ _; omega)
    have s2 := fun W => run_string_add_sum (P := Tryz.prog) W (⟨#[40]⟩ ++ x) ⟨#[44, 32]⟩ (by rw [ByteArray.size_append]; show 1 + _ + 2 ≤ _; omega)
    have s3 := fun W => run_string_add_sum (P := Tryz.prog) W (⟨#[40]⟩ ++ x ++ ⟨#[44, 32]⟩) z (by rw [ByteArray.size_append, ByteArray.size_append]; show 1 + _ + 2 + _ ≤ _; omega)
    have s4 := fun W => run_string_add_sum (P := Tryz.prog) W (⟨#[40]⟩ ++ x ++ ⟨#[44, 32]⟩ ++ z) ⟨#[41]⟩ (by rw [ByteArray.size_append, ByteArray.size_append, ByteArray.size_append]; show 1 + _ + 2 + _ + 1 ≤ _; omega)
    have h1' := Lib.hid h1
    have h3' := Lib.hid h3
    clear h1 h2 h3 HC1 hz2 hT64
    go_enter Tryz.func31, Tryz.ntmps31
    go_wp2_with fail
    refine (hP _).mono ?_
    rintro e w1 ⟨v, rfl, ho, hb⟩
    obtain ⟨A, cp, rfl, _, _⟩ := own_shape ho
    obtain ⟨g, rfl, _, hgw, hcell⟩ := own_cell ho (by omega : 0 < 2)
    obtain ⟨g', e2, _, _, hcell'⟩ := own_cell ho (by omega : 1 < 2)
    injection e2 with e2
    injection e2 with e2
    subst e2
    have c0 := hcell _ rfl
    have c1 := hcell' _ rfl
    have HF : Hid (∀ W, Below w1.heap.size w1 W → W.cell? ⟨g, 0, none⟩ = some (.string sa) ∧ W.cell? ⟨g, 1, none⟩ = some (.string sb)) :=
      Lib.hid fun W h => ⟨(h.cell (p := ⟨g, 0, none⟩) hgw).trans c0, (h.cell (p := ⟨g, 1, none⟩) hgw).trans c1⟩
    clear hcell hcell' hP
    go_wp2_with fail
    go_region_with (first
      | (go_at_call 31; (with_reducible refine (h1'.out _).mono ?_); rintro e wa ⟨rfl, ha⟩; have hq : Below w1.heap.size w1 wa := (by first | exact bl hp ha | exact Below.trans (Below.refl _ _).drew ha | exact ha); obtain ⟨k0, k1⟩ := HF.out wa hq)
      | (go_at_call 31; (with_reducible refine (h3'.out _).mono ?_); rintro e wb ⟨rfl, ha⟩; have hp : Below w1.heap.size w1 wb := (by first | exact bl hq ha | exact Below.trans (Below.refl _ _).drew ha | exact ha); obtain ⟨k0, k1⟩ := HF.out wb hp))
    all_goals
      go_wp2_with fail
      go_ret
      exact ⟨by rw [← HC2.out]; rfl, by first | exact bl hb (bl hp (Below.refl _ _)) | exact bl hb (bl hq (Below.refl _ _))⟩

theorem wordsR_any (T : Ty) : T.ok → T.code.length ≤ 64 → WordsC T := by
  induction T with
  | leaf c => exact fun h _ => wordsR_leaf c h
  | un c a ih =>
    intro h h64
    have h1 : a.code.length ≤ 64 := by simp [Ty.code] at h64; omega
    have := ih h.2 h1
    exact wordsR_un c a h h64 this (wrapR_any a h1 this)
  | bin c a b iha ihb =>
    intro h h64
    have h1 : a.code.length ≤ 64 ∧ b.code.length ≤ 64 := by simp [Ty.code] at h64; omega
    have e1 := iha h.2.1 h1.1
    have e2 := ihb h.2.2 h1.2
    exact wordsR_bin c a b h h64 e1 (wrapR_any a h1.1 e1) e2

theorem WordsR_yes (t : Ty) (w : World) (ht : t.ok) (h64 : t.code.length ≤ 64) :
    Calls Tryz.prog 10 #[.string (str t)] w fun e w' => e = .returned (.tuple #[.string (bs (wordsT t)), .int .i64 0]) ∧ Below w.heap.size w w' := by
  have hC := checkR_any (str t) w (by simp [str]; omega)
  rw [show (str t).data.toList = t.code by rw [str, bs_list], check_code ht h64] at hC
  have hW := fun W => wordsR_any t ht h64 W
  generalize bs (wordsT t) = y at *
  generalize str t = s at *
  go_enter Tryz.func10, Tryz.ntmps10
  go_wp2_with fail
  refine hC.mono ?_
  rintro e w' ⟨rfl, rfl⟩
  go_wp2_with fail
  refine (hW _).mono ?_
  rintro e w1 ⟨rfl, hb⟩
  go_wp2_with fail
  go_ret2
  exact ⟨rfl, hb⟩
theorem WordsR_no (s : ByteArray) (w : World) (hs : s.size ≤ 4611686018427387904) (h : isB s = false) :
    Calls Tryz.prog 10 #[.string s] w fun e w' => e = .returned (.tuple #[.string ⟨#[]⟩, .int .i64 (checkL s.data.toList).1]) ∧ w = w' := by
  have hC := checkR_any s w hs
  have t1 : (((checkL s.data.toList).1 : Int) != 0) = true := by unfold isB at h; simpa using h
  generalize checkL s.data.toList = R at *
  obtain ⟨a, b⟩ := R
  simp only at hC t1 ⊢
  go_enter Tryz.func10, Tryz.ntmps10
  go_wp2_with fail
  refine hC.mono ?_
  rintro e w' ⟨rfl, rfl⟩
  go_wp2_with fail
  go_ret2
  exact ⟨rfl, rfl⟩
end Go.Proofs.YthonnpjlkcjoeaaGreatDoor.T
