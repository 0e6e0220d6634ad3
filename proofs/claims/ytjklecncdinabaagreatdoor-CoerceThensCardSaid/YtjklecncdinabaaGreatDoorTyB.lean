/- Contracts: parts of a type, by the program and by its answer. (printed by cutref.py out of XTypB.) -/
import Derived.Test.YtjklecncdinabaaGreatDoorTyA
import Derived.Lib.Strings
namespace Go.Proofs.YtjklecncdinabaaGreatDoor.T
open Go.RowKit Go.Proofs.YtjklecncdinabaaGreatDoor.B
set_option linter.unusedSimpArgs false
set_option linter.unusedVariables false

/-- A list of bytes as a string. -/
def bs (l : List UInt8) : ByteArray := ⟨l.toArray⟩
@[simp] theorem bs_list (l : List UInt8) : (bs l).data.toList = l := by simp [bs]
@[simp] theorem bs_size (l : List UInt8) : (bs l).size = l.length := by simp [bs, ByteArray.size]
def str (t : Ty) : ByteArray := bs t.code
def strV (t : Ty) : Value := .string (str t)

theorem extract_bs (s : ByteArray) (a b : Nat) : s.extract a b = bs ((s.data.toList.drop a).take (b - a)) := by
  have h := Lib.extract_data s a b
  apply ByteArray.ext
  apply Array.toList_inj.1
  rw [h, bs_list]

theorem info9 : (Tryz.prog.info? 9).map (fun i => (i.zero, i.size, i.bytes)) = some (some (.string ⟨#[]⟩), 1, 16) := by kernel_rfl

set_option maxRecDepth 100000 in
theorem parts_any (t : Ty) (w : World) (ht : t.ok) (h64 : t.code.length ≤ 4611686018427387904) :
    Calls Tryz.prog 84 #[.string (str t)] w fun e w' => ∃ v, e = .returned v ∧ w'.ownsRow w.heap.size 9 1 v t.kids.length (t.kids.map strV) ∧ Below w.heap.size w w' := by
  obtain ⟨i0, hi0, hz0, hz1, hz2⟩ := info_parts info9
  obtain ⟨K, hK⟩ : ∃ K, t.kids = K := ⟨_, rfl⟩
  obtain ⟨s, hs⟩ : ∃ s, str t = s := ⟨_, rfl⟩
  have hsz : s.size = 1 + (K.flatMap Ty.code).length := by rw [← hs, ← hK]; simp only [str, bs_size, Ty.code_eq t, List.length_cons]; omega
  have hsl : s.data.toList.drop 1 = K.flatMap Ty.code := by rw [← hs, ← hK]; simp only [str, bs_list, Ty.code_eq t, List.drop_succ_cons, List.drop_zero]
  have hok : ∀ k ∈ K, k.ok := by rw [← hK]; exact fun k hk => Ty.kids_ok ht hk
  have hk2 : K.length ≤ 2 := by rw [← hK]; cases t <;> simp [Ty.kids]
  rw [hK, hs]
  have h64' : s.size ≤ 4611686018427387904 := by rw [← hs]; simpa only [str, bs_size] using h64
  clear hK hs ht h64
  have HZ := Lib.hid hsz
  have HL := Lib.hid hsl
  have HO := Lib.hid hok
  clear hsz hsl hok
  go_enter Tryz.func84, Tryz.ntmps84
  go_wp2_with fail
  go_loopw [3, 4] (fun l a wr => ∃ k : Nat, k ≤ K.length ∧ a = .int .i64 (1 + clen K k : Nat) ∧ wr.ownsRow w.heap.size 9 1 l k ((K.take k).map strV) ∧ Below w.heap.size w wr) (fun _ a _ => s.size - (intOf a).toNat)
  case atStart => exact ⟨0, by omega, rfl, World.ownsRow_nil _ _ _ _, Below.refl _ _⟩
  case round =>
    obtain ⟨k, hk, rfl, hown, hbel⟩ := hrel
    obtain ⟨at0, hat⟩ : ∃ n, 1 + clen K k = n := ⟨_, rfl⟩
    by_cases hlt : k < K.length
    · obtain ⟨T, hT⟩ : ∃ T, K[k]? = some T := ⟨_, List.getElem?_eq_getElem hlt⟩
      have hTp := T.code_pos
      have hdrop : s.data.toList.drop at0 = T.code ++ (K.drop (k + 1)).flatMap Ty.code := by
        rw [← hat, ← List.drop_drop, HL.out, drop_clen hT]
      have hend : at0 + T.code.length ≤ s.size := by
        have := congrArg List.length hdrop
        simp at this
        omega
      have hskip := skip_any s at0 wr (by omega) h64'
      rw [hdrop, skipN_code T (HO.out T (List.mem_of_getElem? hT))] at hskip
      have hsk0 : ∀ r, skipN r 0 = (0, true) := fun r => by cases r <;> rfl
      rw [hsk0, Nat.zero_add] at hskip
      have hex : s.extract at0 (at0 + T.code.length) = str T := by rw [extract_bs, hdrop]; simp [str]
      have hnext := clen_succ hT
      have htake := take_succ_some hT
      obtain ⟨tl, htl⟩ : ∃ tl, T.code.length = tl := ⟨_, rfl⟩
      rw [htl] at hskip hex hnext hTp hend
      have HEX := Lib.hid hex
      have HN : Hid (1 + clen K (k + 1) = at0 + tl) := by show _ = _; omega
      have HT := Lib.hid htake
      rw [hat]
      have HA := Lib.hid hat
      clear hex hnext htake hsk0 hdrop htl hat hT
      go_wp2_with (first
        | (go_at_call 78; refine hskip.mono ?_; rintro e w' ⟨rfl, rfl⟩)
        | (at_builtin; refine wpList_append_sl _ rfl (.tmp 17) (.tmp 22) 112 rfl w.heap.size 9 i0 _ 1 16 Tryz.underlying112 hi0 hz0 hz1 hz2 rfl (by omega) _ k _ rfl (hown.alloc _) (wr.heap.size + 1) _ 1 1 [.string (s.extract at0 (at0 + tl))] rfl (Sl.one _ _ _) ?_ ?_ ?_ ?_ ?_))
      · intro u hu; simp at hu; subst hu; rfl
      · unfold maxLen; omega
      · omega
      · have := hbel.size; simp; omega
      intro v1 w1 hown1 hg1 hat1
      rw [HEX.out] at hown1
      have hb1 : Below w.heap.size w w1 := (hbel.alloc hbel.size _).grown hg1 (by have := hbel.size; simp; omega) (fun g hg => (hown.lt g hg).1)
      clear hown hbel hskip
      go_wp2
      go_roundw
      case rel => exact ⟨k + 1, by omega, by rw [HN.out]; go_num, by rw [HT.out]; simpa [strV] using hown1, hb1⟩
      case measure => simp [intOf]; omega
    · obtain rfl : k = K.length := by omega
      have hend : s.size ≤ at0 := by rw [HZ.out, ← hat, clen_all]; omega
      rw [hat]
      have HA := Lib.hid hat
      clear hat
      go_wp2
      go_ret
      exact ⟨_, rfl, by simpa using hown, hbel⟩

end Go.Proofs.YtjklecncdinabaaGreatDoor.T
