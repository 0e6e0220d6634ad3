/- Contracts: Make, by the program and by the answer, at any head and any parts. -/
import Derived.Test.YthonnpjlkcjoeaaDoorTexts
import Derived.Test.YthonnpjlkcjoeaaDoorTypC
import Derived.Test.YthonnpjlkcjoeaaDoorRdN
namespace Go.Proofs.YthonnpjlkcjoeaaDoor.T
open Go.RowKit Go.Proofs.YthonnpjlkcjoeaaDoor.B
set_option linter.unusedSimpArgs false
set_option linter.unusedVariables false

/-- The first fault among parts. -/
def badL : List ByteArray → Nat
  | [] => 0
  | a :: r => if (checkL a.data.toList).1 = 0 then badL r else (checkL a.data.toList).1
def catL (l : List ByteArray) : List UInt8 := l.flatMap (·.data.toList)
def makeL (c : UInt8) (l : List ByteArray) : ByteArray × Nat :=
  if ar (c.toNat : Int) ≠ l.length then (⟨#[]⟩, 1) else if badL l ≠ 0 then (⟨#[]⟩, badL l) else if 64 < 1 + (catL l).length then (⟨#[]⟩, 21) else (bs (c :: catL l), 0)

theorem check0_len {s : List UInt8} (h : (checkL s).1 = 0) : s.length ≤ 64 := by
  unfold checkL at h
  split at h
  · cases h
  · omega
theorem badL_len {l : List ByteArray} (h : badL l = 0) : ∀ a ∈ l, a.size ≤ 64 := by
  induction l with
  | nil => intro a ha; cases ha
  | cons b r ih =>
    unfold badL at h
    split at h
    · rename_i h0
      intro a ha
      rcases List.mem_cons.1 ha with rfl | ha
      · have := check0_len h0; simpa using this
      · exact ih h a ha
    · rename_i h0; exact absurd h h0
theorem badL_step {l : List ByteArray} {j : Nat} {s : ByteArray} (hs : l[j]? = some s) : badL (l.drop j) = if (checkL s.data.toList).1 = 0 then badL (l.drop (j + 1)) else (checkL s.data.toList).1 := by
  have hj := (List.getElem?_eq_some_iff.1 hs)
  rw [List.drop_eq_getElem_cons hj.1, hj.2]
  rfl
theorem catL_len {l : List ByteArray} (h : ∀ a ∈ l, a.size ≤ 64) : (catL l).length ≤ 64 * l.length := by
  induction l with
  | nil => simp [catL]
  | cons b r ih =>
    have h1 := ih fun a ha => h a (by simp [ha])
    have h2 := h b (by simp)
    unfold catL at h1 ⊢
    rw [List.flatMap_cons, List.length_append]
    have : b.data.toList.length = b.size := by simp
    simp only [List.length_cons]
    omega
theorem catL_next {l : List ByteArray} {j : Nat} {s : ByteArray} (hs : l[j]? = some s) : catL (l.take (j + 1)) = catL (l.take j) ++ s.data.toList := by
  unfold catL; rw [List.take_add_one, hs]; simp

theorem ar_le (c : UInt8) (n : Nat) (h : ar (c.toNat : Int) = n) : n ≤ 2 := by have := ar_lo (c.toNat : Int); omega
theorem enc_ar (c : UInt8) (h : 0 ≤ ar (c.toNat : Int)) : Utf8.encode (c.toNat : Int) = bs [c] := by
  have e : ∀ n : Nat, n < 256 → (c.toNat : Int) = n → c = UInt8.ofNat n := fun n hn e => by
    apply UInt8.toNat_inj.1; rw [UInt8.toNat_ofNat_of_lt' (by simpa using hn)]; omega
  unfold ar at h
  split at h
  · rename_i h1
    rcases h1 with h1 | h1 | h1 | h1
    · obtain rfl := e 105 (by omega) h1; decide
    · obtain rfl := e 98 (by omega) h1; decide
    · obtain rfl := e 116 (by omega) h1; decide
    · obtain rfl := e 63 (by omega) h1; decide
  · split at h
    · rename_i h1
      rcases h1 with h1 | h1
      · obtain rfl := e 108 (by omega) h1; decide
      · obtain rfl := e 120 (by omega) h1; decide
    · split at h
      · rename_i h1
        rcases h1 with h1 | h1
        · obtain rfl := e 62 (by omega) h1; decide
        · obtain rfl := e 44 (by omega) h1; decide
      · omega

theorem joinN (l : List (List UInt8)) : Lib.join l [] = l.flatten := by
  induction l with
  | nil => rfl
  | cons a r ih =>
    cases r with
    | nil => simp [Lib.join]
    | cons b r => simp only [Lib.join, List.flatten_cons] at ih ⊢; simp [ih]
theorem join_texts (l : List ByteArray) (A : Option Addr) (c : Nat) (w : World) (hc : l.length ≤ c) (hA : Sl w w.heap.size 1 A l.length (tvals l)) (hl : (catL l).length ≤ 1024) (hk : l.length ≤ 2) :
    Calls Tryd.prog 82 #[.slice A l.length c, .string ⟨#[]⟩] w fun e w' => e = .returned (.string (bs (catL l))) ∧ Below w.heap.size w w' := by
  by_cases h0 : l = []
  · subst h0
    refine (Tryd.strings_Join_none A c ⟨#[]⟩ w).mono ?_
    rintro e w' ⟨rfl, rfl⟩
    exact ⟨rfl, Below.refl _ _⟩
  · have hp := List.length_pos_iff.2 h0
    obtain ⟨b, o, rfl, hlt, hcell⟩ := hA.at_ (by omega)
    have hx : (l.map (·.data.toList)).flatten = catL l := by rw [catL, List.flatMap]
    have := Tryd.strings_Join b o c l ⟨#[]⟩ w (fun j x hx => hcell j _ (by simp [tvals, hx])) hlt (by omega) hc (by
      show (Lib.join _ []).length ≤ _
      rw [joinN, hx]; omega)
    rw [show (⟨#[]⟩ : ByteArray).data.toList = [] from rfl, joinN, hx] at this
    exact this

def MakeR (c : UInt8) (l : List ByteArray) (w : World) (e : Ending) (w' : World) : Prop := e = .returned (.tuple #[.string (makeL c l).1, .int .i64 (makeL c l).2]) ∧ Below w.heap.size w w'

set_option maxRecDepth 100000 in
set_option maxHeartbeats 1000000 in
theorem makeP_any (ch : UInt8) (l : List ByteArray) (A : Option Addr) (c : Nat) (w : World) (hl : l.length ≤ 2147483647) (hz : ∀ s ∈ l, s.size ≤ 140737488355328) (hc : l.length ≤ c) (hA : Sl w w.heap.size 1 A l.length (tvals l)) :
    Calls Tryd.prog 39 #[.int .u8 ch.toNat, .slice A l.length c] w fun e w' => MakeR ch l w e w' := by
  have har := Lib.hid fun W => arity_any (ch.toNat : Int) W
  have hlo := ar_lo (ch.toNat : Int)
  have hn0 : (0 : Int) ≤ (ch.toNat : Int) := by omega
  have hn1 : (ch.toNat : Int) < 256 := by have := UInt8.toNat_lt ch; omega
  have HC := Lib.hid fun (s : ByteArray) (W : World) (h : s.size ≤ 4611686018427387904) => check_any s W h
  have HZ := Lib.hid hz
  unfold MakeR
  by_cases h1 : ar (ch.toNat : Int) ≠ l.length
  · have e0 : makeL ch l = (⟨#[]⟩, 1) := if_pos h1
    rw [e0]
    have t1 : (ar (ch.toNat : Int) != (l.length : Int)) = true := by simpa using h1
    generalize ar (ch.toNat : Int) = q at har t1 hlo
    generalize (ch.toNat : Int) = n at har hn0 hn1 ⊢
    clear h1 e0
    go_enter Tryd.func39, Tryd.ntmps39
    go_wp2_with fail
    refine (har.out _).mono ?_
    rintro e w' ⟨rfl, rfl⟩
    go_wp2_with fail
    go_ret2
    exact ⟨rfl, Below.refl _ _⟩
  · have h1' : ar (ch.toNat : Int) = l.length := by simpa using h1
    have hk2 := ar_le ch _ h1'
    have hen := enc_ar ch (by omega)
    have t1 : (ar (ch.toNat : Int) != (l.length : Int)) = false := by simpa using h1
    obtain ⟨M, hM⟩ : ∃ M, makeL ch l = M := ⟨_, rfl⟩
    have HM : Hid (badL l ≠ 0 → M = (⟨#[]⟩, badL l)) := Lib.hid fun h => by rw [← hM, makeL, if_neg h1, if_pos h]
    have HM2 : Hid (badL l = 0 → M = if 64 < 1 + (catL l).length then (⟨#[]⟩, 21) else (bs (ch :: catL l), 0)) := Lib.hid fun h => by rw [← hM, makeL, if_neg h1, if_neg (by simpa using h)]
    rw [hM]
    clear hM h1
    have HJ : Hid (badL l = 0 → (catL l).length ≤ 1024 ∧ Calls Tryd.prog 82 #[.slice A l.length c, .string ⟨#[]⟩] w fun e w' => e = .returned (.string (bs (catL l))) ∧ Below w.heap.size w w') := Lib.hid fun h => by
      have := catL_len (badL_len h)
      exact ⟨by omega, join_texts l A c w hc hA (by omega) hk2⟩
    have HS : Hid (bs [ch] ++ bs (catL l) = bs (ch :: catL l)) := Lib.hid (bs_app [ch] (catL l))
    have hx1 : (bs [ch]).size = 1 := by rw [bs_size]; rfl
    rw [h1'] at har
    generalize (ch.toNat : Int) = n at har hn0 hn1 hen ⊢
    obtain ⟨hd, hhd⟩ : ∃ x, bs [ch] = x := ⟨_, rfl⟩
    rw [hhd] at hen HS hx1
    clear t1 h1' hlo hhd
    go_enter Tryd.func39, Tryd.ntmps39
    go_wp2_with fail
    refine (har.out _).mono ?_
    rintro e w' ⟨rfl, rfl⟩
    go_wp2_with fail
    go_loopg [18] l.length (fun g i wr => ∃ j : Nat, j ≤ l.length ∧ g = l.length - j ∧ i = .int .i64 j ∧ Hid (badL l = badL (l.drop j)) ∧ wr = w)
    case atStart => exact ⟨0, by omega, rfl, rfl, Lib.hid rfl, rfl⟩
    case round =>
      obtain ⟨j, hj, rfl, rfl, HB, rfl⟩ := hrel
      by_cases hlt : j < l.length
      · obtain ⟨s, hs⟩ : ∃ s, l[j]? = some s := ⟨_, List.getElem?_eq_getElem hlt⟩
        obtain ⟨bb, o, rfl, hbb, c0⟩ := text_cell hA (Below.refl _ _) hs
        have hcall := Lib.hid fun W => HC.out s W (by have := HZ.out s (List.mem_of_getElem? hs); omega)
        have hst := badL_step hs
        obtain ⟨E, hE⟩ : ∃ E, checkL s.data.toList = E := ⟨_, rfl⟩
        rw [hE] at hcall hst
        obtain ⟨E1, E2⟩ := E
        simp only at hcall hst
        by_cases h0 : E1 = 0
        · subst h0
          have HB2 : Hid (badL l = badL (l.drop (j + 1))) := Lib.hid (by rw [HB.out, hst, if_pos rfl])
          clear hst hE
          go_wp2_with fail
          refine (hcall.out _).mono ?_
          rintro e w2 ⟨rfl, rfl⟩
          go_wp2_with fail
          go_roundg (l.length - (j + 1))
          case measure => omega
          case rel => exact ⟨j + 1, by omega, rfl, by go_num, HB2, rfl⟩
        · have hM := HM.out (by rw [HB.out, hst, if_neg h0]; exact h0)
          rw [HB.out, hst, if_neg h0] at hM
          have t1 : ((E1 : Int) != 0) = true := by simpa using h0
          have HM3 := Lib.hid hM
          clear hst hE hM
          go_wp2_with fail
          refine (hcall.out _).mono ?_
          rintro e w2 ⟨rfl, rfl⟩
          go_wp2_with fail
          go_ret2
          exact ⟨by rw [HM3.out]; rfl, Below.refl _ _⟩
      · obtain rfl : j = l.length := by omega
        have hb0 : badL l = 0 := by rw [HB.out, List.drop_length]; rfl
        obtain ⟨hcl, hJ⟩ := HJ.out hb0
        have hM := HM2.out hb0
        have hcs : (bs (catL l)).size = (catL l).length := bs_size _
        have s1 := fun W => add_sum (P := Tryd.prog) hd (bs (catL l)) 1024 (by omega) (by omega) (by decide) W
        have hzz : (hd ++ bs (catL l)).size = 1 + (catL l).length := by rw [ByteArray.size_append, hx1, hcs]
        rw [HS.out] at s1 hzz
        generalize bs (catL l) = jn at hJ s1 hcs
        generalize bs (ch :: catL l) = tt at hM s1 hzz
        generalize (catL l).length = cl at hM hzz hcl hcs
        have HJ2 := Lib.hid hJ
        by_cases h64 : 64 < 1 + cl
        · rw [if_pos h64] at hM
          have HM3 := Lib.hid hM
          have t2 : decide ((64 : Int) < (tt.size : Int)) = true := by simp; omega
          clear hM hJ hcs hzz h64 hcl HB HM HM2 HJ HS
          go_wp2_with fail
          refine HJ2.out.mono ?_
          rintro e w2 ⟨rfl, hb2⟩
          go_wp2_with fail
          go_ret2
          exact ⟨by rw [HM3.out]; rfl, hb2⟩
        · rw [if_neg h64] at hM
          have HM3 := Lib.hid hM
          have t2 : decide ((64 : Int) < (tt.size : Int)) = false := by simp; omega
          clear hM hJ hcs hzz h64 hcl HB HM HM2 HJ HS
          go_wp2_with fail
          refine HJ2.out.mono ?_
          rintro e w2 ⟨rfl, hb2⟩
          go_wp2_with fail
          go_ret2
          exact ⟨by rw [HM3.out]; rfl, hb2⟩
end Go.Proofs.YthonnpjlkcjoeaaDoor.T
