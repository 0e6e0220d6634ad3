/- Contract: Looser, every type. -/
import Derived.Test.YthonnpjlkcjoeaaDoorRelO
namespace Go.Proofs.YthonnpjlkcjoeaaDoor.T
open Go.RowKit Go.Proofs.YthonnpjlkcjoeaaDoor.B
set_option linter.unusedSimpArgs false
set_option linter.unusedVariables false

def bsV (l : List UInt8) : Value := .string (bs l)
def loosL (T : Ty) (j : Nat) : List (List UInt8) := (List.range j).flatMap (loosJ T)
theorem loosL_succ (T : Ty) (j : Nat) : loosL T (j + 1) = loosL T j ++ loosJ T j := by simp [loosL, List.range_succ]
theorem loosL_le (T : Ty) {i j : Nat} (h : i ≤ j) : (loosL T i).length ≤ (loosL T j).length := by
  induction j with
  | zero => obtain rfl : i = 0 := by omega
            exact Nat.le_refl _
  | succ j ih =>
    rcases Nat.lt_or_ge i (j + 1) with h1 | h1
    · rw [loosL_succ, List.length_append]
      have := ih (by omega)
      omega
    · obtain rfl : i = j + 1 := by omega
      exact Nat.le_refl _
theorem loosL_max {T : Ty} (h : T.ok) (hq : T.head ≠ 63) (hb : bare T = false) {j : Nat} (hj : j < T.kids.length) : (loosL T j).length + (loosJ T j).length ≤ T.code.length := by
  have h1 := loosL_le T (show j + 1 ≤ T.kids.length by omega)
  rw [loosL_succ, List.length_append] at h1
  have h2 := congrArg List.length (looser_kids h hq hb)
  rw [List.length_map] at h2
  have h3 := looser_many T
  unfold loosL at *
  omega
theorem loosJ_at {T k q : Ty} {j m : Nat} (hk : T.kids[j]? = some k) (hq : (looserT k)[m]? = some q) :
    (loosJ T j)[m]? = some (T.code.take (1 + clen T.kids j) ++ q.code ++ T.code.drop (1 + clen T.kids j + k.code.length)) := by
  unfold loosJ
  rw [hk]
  simp only [List.getElem?_map, hq, Option.map_some]
theorem loosJ_len {T k : Ty} {j : Nat} (hk : T.kids[j]? = some k) : (loosJ T j).length = (looserT k).length := by
  unfold loosJ
  rw [hk]
  simp
theorem at_le {T k : Ty} {j : Nat} (hk : T.kids[j]? = some k) : 1 + clen T.kids j + k.code.length ≤ T.code.length := by
  have h1 := drop_clen hk
  have h2 := congrArg List.length h1
  rw [Ty.code_eq T]
  simp only [List.length_drop, List.length_append, List.length_cons] at *
  have := k.code_pos
  omega

theorem cat_eq (s : ByteArray) (l q : List UInt8) (a b : Nat) (hs : s.data.toList = l) : s.extract 0 a ++ bs q ++ s.extract b s.size = bs (l.take a ++ q ++ l.drop b) := by
  have h : (l.drop b).length ≤ s.size - b := by rw [← hs]; simp
  rw [extract_bs, extract_bs, bs_append, bs_append, hs, List.drop_zero, Nat.sub_zero, List.take_of_length_le h]

set_option maxRecDepth 100000 in
set_option maxHeartbeats 1000000 in
theorem Looser_any (fuel : Nat) : ∀ (T : Ty) (w : World) (hf : T.code.length ≤ fuel) (hT : T.ok) (hT64 : T.code.length ≤ 64),
    Calls Tryd.prog 32 #[.string (str T)] w fun e w' => LooserR T w e w' := by
  induction fuel with
  | zero => intro T w hf; have := T.code_pos; omega
  | succ fuel ih =>
  intro T w hf hT hT64
  by_cases hc : T.head = 63 ∨ bare T = true
  · exact Looser_easy T w hT hT64 hc
  have hq : T.head ≠ 63 := fun h => hc (.inl h)
  have hb : bare T = false := by simpa using fun h => hc (.inr h)
  have IH := Lib.hid ih
  have hi := fun W => isRel_any (str T) W (by simp only [str, bs_size]; omega)
  rw [isB_str hT hT64] at hi
  have q2 := str_q hT
  have q2' : ((str T).toList == [63]) = false := by rw [q2]; simpa using hq
  have hg := fun W => ground_any T W hT hT64 hq
  have hs := str_ground hT hq
  rw [hb] at hs
  have hP := fun W => Parts_yes T W hT hT64
  unfold PartsR at hP
  have hfin : (looserT T).map strV = (loosL T T.kids.length).map bsV := by
    have := congrArg (List.map bsV) (looser_kids hT hq hb)
    rw [List.map_map] at this
    exact this
  have hfinl : (looserT T).length = (loosL T T.kids.length).length := by have := congrArg List.length hfin; simpa using this
  unfold LooserR OwnTs
  rw [hfin, hfinl]
  have hmax : ∀ j, j < T.kids.length → (loosL T j).length + (loosJ T j).length ≤ 64 := fun j hj => by have := loosL_max hT hq hb hj; omega
  have hsz : (str T).size = T.code.length := by simp only [str, bs_size]
  have hsl : (str T).data.toList = T.code := by rw [str, bs_list]
  obtain ⟨K, hK⟩ : ∃ K, T.kids = K := ⟨_, rfl⟩
  have hkid : ∀ k ∈ K, k.ok ∧ k.code.length ≤ fuel ∧ k.code.length ≤ 64 := fun k hk => by
    rw [← hK] at hk
    have := Ty.kid_code hk
    exact ⟨Ty.kids_ok hT hk, by omega, by omega⟩
  have hK2 : K.length ≤ 2 := by rw [← hK]; exact Ty.kids_le T
  rw [hK] at hP hmax ⊢
  obtain ⟨s, hsd⟩ : ∃ s, str T = s := ⟨_, rfl⟩
  rw [hsd] at hi q2' hg hs hP hsz hsl ⊢
  generalize bs (groundL T) = g at *
  have hs64 : s.size ≤ 64 := by omega
  have HKID := Lib.hid hkid
  have HMAX := Lib.hid hmax
  have HSZ := Lib.hid hsz
  have HSL := Lib.hid hsl
  have HK := Lib.hid hK
  clear ih hq hb hc q2 hfin hfinl hkid hmax hsd hsz hsl hK hf hT64
  go_enter Tryd.func32, Tryd.ntmps32
  go_wp2_with fail
  refine (hi _).mono ?_
  rintro e w' ⟨rfl, rfl⟩
  go_wp2_with fail
  refine (hg _).mono ?_
  rintro e w1 ⟨rfl, hb1⟩
  go_wp2_with fail
  refine (hP _).mono ?_
  rintro e w2 ⟨vP, rfl, hoP, hb2⟩
  obtain ⟨AP, cP, rfl, _, _⟩ := own_shape hoP
  have hc2 := bl hb1 hb2
  have hoP' := own_less hoP hb1.size
  clear hoP hb1 hb2 hi hg hP hs q2'
  go_wp2_with fail
  go_loopg [3, 4, 24] K.length (fun g l a i wr => ∃ j : Nat, j ≤ K.length ∧ g = K.length - j ∧ a = .int .i64 (1 + clen K j : Nat) ∧ i = .int .i64 j ∧ wr.ownsRow w.heap.size 9 1 l (loosL T j).length ((loosL T j).map bsV) ∧
      Apart (.slice AP K.length cP) l ∧ wr.ownsRow w.heap.size 9 1 (.slice AP K.length cP) K.length (K.map strV) ∧ Below w.heap.size w wr)
  case atStart => exact ⟨0, by omega, rfl, rfl, rfl, World.ownsRow_nil _ _ _ _, Apart.nil _, hoP', hc2⟩
  case round =>
    obtain ⟨j, hj, rfl, rfl, rfl, hl, hap, hP, hbr⟩ := hrel
    by_cases hlt : j < K.length
    · obtain ⟨k, hk⟩ : ∃ k, K[j]? = some k := ⟨_, List.getElem?_eq_getElem hlt⟩
      obtain ⟨gP, rfl, hg1, hg2, hcell⟩ := own_cell hP hlt
      have hapP := hap
      have hc1 := hcell (.string (str k)) (by rw [List.getElem?_map, hk]; rfl)
      obtain ⟨kok, kf, k64⟩ := HKID.out k (List.mem_of_getElem? hk)
      have hcall := fun W => IH.out k W kf kok k64
      unfold LooserR OwnTs at hcall
      obtain ⟨n2, hn2⟩ : ∃ n, (looserT k).length = n := ⟨_, rfl⟩
      rw [hn2] at hcall
      have hm64 := HMAX.out j hlt
      have hjl : (loosJ T j).length = n2 := by rw [loosJ_len (by rw [HK.out]; exact hk), hn2]
      have hale : 1 + clen K j + k.code.length ≤ s.size := by rw [HSZ.out, ← HK.out]; exact at_le (by rw [HK.out]; exact hk)
      have hpz : (str k).size = k.code.length := by simp only [str, bs_size]
      obtain ⟨p, hp⟩ : ∃ p, str k = p := ⟨_, rfl⟩
      rw [hp] at hc1 hcall hpz
      obtain ⟨at0, hat⟩ : ∃ n, 1 + clen K j = n := ⟨_, rfl⟩
      rw [hat] at hale ⊢
      rw [← hpz] at hale
      have HKJ := Lib.hid hk
      have HN2 := Lib.hid hn2
      have HJL := Lib.hid hjl
      have HAT := Lib.hid hat
      have HPZ := Lib.hid hpz
      clear hk hn2 hjl hat hpz hp hcell
      go_wp2_with fail
      refine (hcall _).mono ?_
      rintro e w3 ⟨v2, rfl, ho2, hb3⟩
      obtain ⟨A2, c2, rfl, _, _⟩ := own_shape ho2
      have hl' := own_below hl hb3
      have hP' := own_below hP hb3
      have hap2 : Apart (.slice A2 n2 c2) _ := Apart.later hl ho2 (Nat.le_refl _)
      have hbr' := bl hbr hb3
      have ho2' := own_less ho2 hbr.size
      clear hl hP hbr hb3 ho2 hcall hap
      have hap' : Apart (.slice (some ⟨gP, 0, none⟩) K.length cP) _ := hapP
      go_wp2_with fail
      go_loopg [3, 31] n2 (fun g l i wi => ∃ m : Nat, m ≤ n2 ∧ g = n2 - m ∧ i = .int .i64 m ∧ wi.ownsRow w.heap.size 9 1 l ((loosL T j).length + m) ((loosL T j ++ (loosJ T j).take m).map bsV) ∧
          Apart (.slice (some ⟨gP, 0, none⟩) K.length cP) l ∧ Apart (.slice A2 n2 c2) l ∧ wi.ownsRow w.heap.size 9 1 (.slice (some ⟨gP, 0, none⟩) K.length cP) K.length (K.map strV) ∧
          wi.ownsRow w.heap.size 9 1 (.slice A2 n2 c2) n2 ((looserT k).map strV) ∧ Below w.heap.size w wi)
      case atStart => exact ⟨0, by omega, rfl, rfl, by simpa using hl', hap', hap2, hP', ho2', hbr'⟩
      case round =>
        obtain ⟨m, hm, rfl, rfl, hl, hap, hap2, hP, ho2, hbr⟩ := hrel
        by_cases hltm : m < n2
        · obtain ⟨q, hq⟩ : ∃ q, (looserT k)[m]? = some q := ⟨_, List.getElem?_eq_getElem (by rw [HN2.out]; exact hltm)⟩
          obtain ⟨g2, rfl, hg21, hg22, hcell⟩ := own_cell ho2 hltm
          have hc1 := hcell (.string (str q)) (by rw [List.getElem?_map, hq]; rfl)
          have hqz : (str q).size ≤ 64 := by simp only [str, bs_size]; have := looser_len q (List.mem_of_getElem? hq); omega
          have hnew := loosJ_at (T := T) (by rw [HK.out]; exact HKJ.out) hq
          rw [HK.out, HAT.out] at hnew
          have htk := take_succ_some hnew
          have hcat : s.extract 0 at0 ++ str q ++ s.extract (at0 + p.size) s.size = bs (T.code.take at0 ++ q.code ++ T.code.drop (at0 + k.code.length)) := by
            rw [str, cat_eq s T.code q.code _ _ HSL.out, HPZ.out]
          have hz1 : (s.extract 0 at0).size ≤ 64 := by rw [ByteArray.size_extract]; omega
          have hz2 : (s.extract (at0 + p.size) s.size).size ≤ 64 := by rw [ByteArray.size_extract]; omega
          obtain ⟨q', hq'⟩ : ∃ q', str q = q' := ⟨_, rfl⟩
          rw [hq'] at hc1 hqz hcat
          have HTK := Lib.hid htk
          have HCAT := Lib.hid hcat
          clear hq hnew htk hcat hq' hcell
          obtain ⟨i0, hi0, hz0, hz1', hz2'⟩ := info_parts info9
          go_wp2_with fail
          have f1 : at0 ≤ s.size := by omega
          have f2 : IntKind.i64.wrap ((at0 : Int) + (p.size : Int)) = (at0 : Int) + (p.size : Int) := IntWalk.i64_in _ (by omega)
          have f3 : 0 ≤ (at0 : Int) + (p.size : Int) := by omega
          have f4 : ((at0 : Int) + (p.size : Int)).toNat = at0 + p.size := by omega
          have f5 : (at0 : Int) + (p.size : Int) ≤ (s.size : Int) := by omega
          have f6 : ¬ 9223372036854775807 < at0 + q'.size := by omega
          have f7 : ¬ 9223372036854775807 < at0 + q'.size + (s.size - (at0 + p.size)) := by omega
          have hl0 : (wr.drew.alloc (.cells #[.string (s.extract 0 at0 ++ q' ++ s.extract (at0 + p.size) s.size)] 9)).ownsRow w.heap.size 9 1 u3 ((loosL T j).length + m) ((loosL T j ++ (loosJ T j).take m).map bsV) := World.ownsRow.alloc (w := wr.drew) hl _
          have s1 : ∀ u ∈ [Value.string (s.extract 0 at0 ++ q' ++ s.extract (at0 + p.size) s.size)], u.oneCell' = true := by intro u hu; simp at hu; subst hu; rfl
          have s2 : (loosL T j).length + m + 1 ≤ maxLen := by have := HJL.out; unfold maxLen; omega
          have s3 : ((loosL T j).length + m + 1) * 16 ≤ 140737488355328 := by have := HJL.out; omega
          have s4 : w.heap.size ≤ (wr.drew.alloc (.cells #[.string (s.extract 0 at0 ++ q' ++ s.extract (at0 + p.size) s.size)] 9)).heap.size := by have := hbr.size; show w.heap.size ≤ (wr.alloc _).heap.size; simp; omega
          have s5 := Sl.one wr.drew (.string (s.extract 0 at0 ++ q' ++ s.extract (at0 + p.size) s.size)) 9
          go_region_law (refine step_append_sl rfl (.tmp 35) (.tmp 48) 67 rfl w.heap.size 9 i0 _ 1 16 Tryd.underlying67 hi0 hz0 hz1' hz2' rfl (by omega) u3 _ _ (by simp [Act.eval, Act.put]) hl0 _ _ 1 1 _ (by simp [Act.eval, Act.put]) s5 s1 s2 s3 s4 ?_; intro v' w4 ho4 hg4 ha4)
          rw [HCAT.out] at ho4
          have hb4 : Below w.heap.size w w4 := ((hbr.drew).alloc hbr.size _).grown hg4 s4 (fun g hg => (hl.lt g hg).1)
          have hP4 : w4.ownsRow w.heap.size 9 1 (.slice (some ⟨gP, 0, none⟩) K.length cP) K.length (K.map strV) := (World.ownsRow.alloc (w := wr.drew) hP _).kept hg4 hap
          have ho24 : w4.ownsRow w.heap.size 9 1 (.slice (some ⟨g2, 0, none⟩) n2 c2) n2 ((looserT k).map strV) := (World.ownsRow.alloc (w := wr.drew) ho2 _).kept hg4 hap2
          have hap4 := Apart.next (l' := v') hap (World.ownsRow.alloc (w := wr.drew) hP (.cells #[.string (s.extract 0 at0 ++ q' ++ s.extract (at0 + p.size) s.size)] 9)) ha4
          have hap24 := Apart.next (l' := v') hap2 (World.ownsRow.alloc (w := wr.drew) ho2 (.cells #[.string (s.extract 0 at0 ++ q' ++ s.extract (at0 + p.size) s.size)] 9)) ha4
          go_wp2_with fail
          go_roundg (n2 - (m + 1))
          case measure => omega
          case rel => exact ⟨m + 1, by omega, rfl, by go_num, by rw [HTK.out]; simpa [bsV, Nat.add_assoc] using ho4, hap4, hap24, hP4, ho24, hb4⟩
        · have hm2 : m = n2 := by omega
          go_wp2_with fail
          go_roundg (K.length - (j + 1))
          case measure => omega
          case rel =>
            subst hm2
            have e1 : (loosJ T j).take m = loosJ T j := List.take_of_length_le (by rw [HJL.out]; omega)
            rw [e1, ← loosL_succ] at hl
            have e2 : (loosL T j).length + m = (loosL T (j + 1)).length := by rw [loosL_succ, List.length_append, HJL.out]
            rw [e2] at hl
            refine ⟨j + 1, by omega, rfl, ?_, by go_num, hl, hap, hP, hbr⟩
            have e3 := clen_succ HKJ.out
            have e4 := HPZ.out
            have e5 := HAT.out
            rw [show (1 + clen K (j + 1) : Nat) = at0 + p.size by omega]
            go_num
    · obtain rfl : j = K.length := by omega
      go_wp2_with fail
      go_ret
      exact ⟨_, rfl, hl, hbr⟩

end Go.Proofs.YthonnpjlkcjoeaaDoor.T
