/- Contract: the answer's Make at any head and any parts. -/
import Derived.Test.YthonnpjlkcjoeaaDoorMakeG
namespace Go.Proofs.YthonnpjlkcjoeaaDoor.T
open Go.RowKit Go.Proofs.YthonnpjlkcjoeaaDoor.B
set_option linter.unusedSimpArgs false
set_option linter.unusedVariables false

set_option maxRecDepth 100000 in
set_option maxHeartbeats 1000000 in
theorem makeR_any (ch : UInt8) (l : List ByteArray) (A : Option Addr) (c : Nat) (w : World) (hl : l.length ≤ 2147483647) (hz : ∀ s ∈ l, s.size ≤ 140737488355328) (hA : Sl w w.heap.size 1 A l.length (tvals l)) :
    Calls Tryd.prog 40 #[.int .u8 ch.toNat, .slice A l.length c] w fun e w' => MakeR ch l w e w' := by
  have har := Lib.hid fun W => arityR_any (ch.toNat : Int) W
  have hlo := ar_lo (ch.toNat : Int)
  have hn0 : (0 : Int) ≤ (ch.toNat : Int) := by omega
  have hn1 : (ch.toNat : Int) < 256 := by have := UInt8.toNat_lt ch; omega
  have HC := Lib.hid fun (s : ByteArray) (W : World) (h : s.size ≤ 4611686018427387904) => checkR_any s W h
  have HZ := Lib.hid hz
  unfold MakeR
  by_cases h1 : ar (ch.toNat : Int) ≠ l.length
  · have e0 : makeL ch l = (⟨#[]⟩, 1) := if_pos h1
    rw [e0]
    have t1 : (ar (ch.toNat : Int) != (l.length : Int)) = true := by simpa using h1
    generalize ar (ch.toNat : Int) = q at har t1 hlo
    generalize (ch.toNat : Int) = n at har hn0 hn1 ⊢
    clear h1 e0
    go_enter Tryd.func40, Tryd.ntmps40
    go_wp2_with fail
    refine (har.out _).mono ?_
    rintro e w' ⟨rfl, rfl⟩
    go_wp2_with fail
    go_ret2
    exact ⟨rfl, Below.refl _ _⟩
  · have h1' : ar (ch.toNat : Int) = l.length := by simpa using h1
    have hk2 := ar_le ch _ h1'
    obtain ⟨M, hM⟩ : ∃ M, makeL ch l = M := ⟨_, rfl⟩
    have HM : Hid (badL l ≠ 0 → M = (⟨#[]⟩, badL l)) := Lib.hid fun h => by rw [← hM, makeL, if_neg h1, if_pos h]
    have HM2 : Hid (badL l = 0 → M = if 64 < 1 + (catL l).length then (⟨#[]⟩, 21) else (bs (ch :: catL l), 0)) := Lib.hid fun h => by rw [← hM, makeL, if_neg h1, if_neg (by simpa using h)]
    rw [hM]
    clear hM h1
    have hcv := run_convert_bytes_back (P := Tryd.prog) (w.alloc (.cells #[.int .u8 (ch.toNat : Int)] 5)) 100 9 5 ⟨w.heap.size, 0, none⟩ 1 [ch] Tryd.underlying100 Tryd.underlying5 Tryd.underlying9 (fun j hj => by
      have : j = 0 := by simpa using hj
      subst this
      exact World.cell?_alloc_new w #[.int .u8 (ch.toNat : Int)] 5 0)
    have hcv2 : (convert 100 9 (.slice (some ⟨w.heap.size, 0, none⟩) 1 1)).run Tryd.prog (w.alloc (.cells #[.int .u8 (ch.toNat : Int)] 5)) = .ok (.string (bs [ch])) (w.alloc (.cells #[.int .u8 (ch.toNat : Int)] 5)) := hcv
    clear hcv
    rw [h1'] at har
    generalize (ch.toNat : Int) = n at har hn0 hn1 hcv2 ⊢
    have HB0 : Hid (Below w.heap.size w (w.alloc (.cells #[.int .u8 n] 5))) := Lib.hid (bal (Below.refl _ _) _)
    have HA : Hid (∀ (k : Nat) (s : ByteArray), l[k]? = some s → ∃ b o, A = some ⟨b, o, none⟩ ∧ b < w.heap.size ∧ (w.alloc (.cells #[.int .u8 n] 5)).cell? ⟨b, o + k, none⟩ = some (.string s)) := Lib.hid fun k s hs => text_cell hA HB0.out hs
    clear h1' hlo hA
    go_enter Tryd.func40, Tryd.ntmps40
    go_wp2_with fail
    refine (har.out _).mono ?_
    rintro e w' ⟨rfl, rfl⟩
    go_wp2_with fail
    go_loopg [6, 7] l.length (fun g t i wr => ∃ j : Nat, j ≤ l.length ∧ g = l.length - j ∧ i = .int .i64 j ∧ t = .string (bs (ch :: catL (l.take j))) ∧ Hid (badL l = badL (l.drop j)) ∧ (catL (l.take j)).length ≤ 64 * j ∧ wr = w.alloc (.cells #[.int .u8 n] 5))
    case atStart => exact ⟨0, by omega, rfl, rfl, rfl, Lib.hid rfl, by simp [catL], rfl⟩
    case round =>
      obtain ⟨j, hj, rfl, rfl, rfl, HB, hcl, rfl⟩ := hrel
      by_cases hlt : j < l.length
      · obtain ⟨s, hs⟩ : ∃ s, l[j]? = some s := ⟨_, List.getElem?_eq_getElem hlt⟩
        obtain ⟨bb, o, rfl, hbb, c0⟩ := HA.out j s hs
        have hcall := Lib.hid fun W => HC.out s W (by have := HZ.out s (List.mem_of_getElem? hs); omega)
        have hst := badL_step hs
        have hcn := catL_next hs
        have hz0 : (checkL s.data.toList).1 = 0 → s.size ≤ 64 := fun h => by have := check0_len h; simpa using this
        obtain ⟨E, hE⟩ : ∃ E, checkL s.data.toList = E := ⟨_, rfl⟩
        rw [hE] at hcall hst hz0
        obtain ⟨E1, E2⟩ := E
        simp only at hcall hst hz0
        by_cases h0 : E1 = 0
        · subst h0
          have HB2 : Hid (badL l = badL (l.drop (j + 1))) := Lib.hid (by rw [HB.out, hst, if_pos rfl])
          have hs64 := hz0 rfl
          have hcs : (bs (ch :: catL (l.take j))).size ≤ 1024 := by rw [bs_size, List.length_cons]; omega
          have s1 := fun W => add_sum (P := Tryd.prog) (bs (ch :: catL (l.take j))) s 1024 hcs (by omega) (by decide) W
          have HN : Hid (bs (ch :: catL (l.take j)) ++ s = bs (ch :: catL (l.take (j + 1)))) := Lib.hid (by
            rw [hcn]
            have : s = bs s.data.toList := by apply ByteArray.ext; apply Array.toList_inj.1; rw [bs_list]
            conv => lhs; rw [this]
            rw [bs_app]; rfl)
          have HL : Hid ((catL (l.take (j + 1))).length ≤ 64 * (j + 1)) := Lib.hid (by
            rw [hcn, List.length_append]
            have : s.data.toList.length = s.size := by simp
            omega)
          generalize bs (ch :: catL (l.take j)) = y at s1 HN hcs ⊢
          clear hst hE hz0 hcn hcl
          go_wp2_with fail
          refine (hcall.out _).mono ?_
          rintro e w2 ⟨rfl, rfl⟩
          go_wp2_with fail
          go_roundg (l.length - (j + 1))
          case measure => omega
          case rel => exact ⟨j + 1, by omega, rfl, by go_num, by rw [← HN.out], HB2, HL.out, rfl⟩
        · have hM := HM.out (by rw [HB.out, hst, if_neg h0]; exact h0)
          rw [HB.out, hst, if_neg h0] at hM
          have t1 : ((E1 : Int) != 0) = true := by simpa using h0
          have HM3 := Lib.hid hM
          clear hst hE hM hz0 hcn
          go_wp2_with fail
          refine (hcall.out _).mono ?_
          rintro e w2 ⟨rfl, rfl⟩
          go_wp2_with fail
          go_ret2
          exact ⟨by rw [HM3.out]; rfl, HB0.out⟩
      · obtain rfl : j = l.length := by omega
        have hb0 : badL l = 0 := by rw [HB.out, List.drop_length]; rfl
        have hM := HM2.out hb0
        rw [List.take_length] at hcl ⊢
        have hcs : (bs (ch :: catL l)).size = 1 + (catL l).length := by rw [bs_size, List.length_cons]; omega
        generalize bs (ch :: catL l) = tt at hM hcs ⊢
        generalize (catL l).length = cl at hM hcl hcs
        by_cases h64 : 64 < 1 + cl
        · rw [if_pos h64] at hM
          have HM3 := Lib.hid hM
          have t2 : decide ((64 : Int) < (tt.size : Int)) = true := by simp; omega
          clear hM hcs h64 hcl HB HM HM2
          go_wp2_with fail
          go_ret2
          exact ⟨by rw [HM3.out]; rfl, HB0.out⟩
        · rw [if_neg h64] at hM
          have HM3 := Lib.hid hM
          have t2 : decide ((64 : Int) < (tt.size : Int)) = false := by simp; omega
          clear hM hcs h64 hcl HB HM HM2
          go_wp2_with fail
          go_ret2
          exact ⟨by rw [HM3.out]; rfl, HB0.out⟩
end Go.Proofs.YthonnpjlkcjoeaaDoor.T
