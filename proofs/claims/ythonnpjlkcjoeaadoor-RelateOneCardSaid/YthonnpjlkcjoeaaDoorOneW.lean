/- RelateOne's walk. -/
import Derived.Test.YthonnpjlkcjoeaaDoorLooR
import Derived.Test.YthonnpjlkcjoeaaDoorTexts
import Derived.Test.YthonnpjlkcjoeaaDoorRelQ
import Derived.Test.YthonnpjlkcjoeaaDoorBagUT
import Derived.Test.YthonnpjlkcjoeaaDoorBagV
namespace Go.Proofs.YthonnpjlkcjoeaaDoor.T
open Go.RowKit Go.Proofs.YthonnpjlkcjoeaaDoor.B
set_option linter.unusedSimpArgs false
set_option linter.unusedVariables false

/-- A list of texts of one's own. -/
def OwnX (w : World) (base : Nat) (v : Value) (l : List ByteArray) : Prop := w.ownsRow base 9 1 v l.length (tvals l)
theorem own_strs {w : World} {base : Nat} {v : Value} {l : List Ty} (h : w.ownsRow base 9 1 v l.length (l.map strV)) : OwnX w base v (l.map str) := by
  unfold OwnX
  rw [List.length_map, tvals, List.map_map]
  exact h
theorem pair_match (s : ByteArray) (h : UInt8) (hs : s.size ≤ 4611686018427387904) : ∃ (b : Bool) (l : List ByteArray), l.length ≤ 64 ∧
    (∀ W, Calls Tryd.prog 30 #[.string s, .int .u8 h.toNat] W fun e w' => ∃ v, e = .returned (.tuple #[v, .bool b]) ∧ OwnX w' W.heap.size v l ∧ Below W.heap.size W w') ∧
    (∀ W, Calls Tryd.prog 31 #[.string s, .int .u8 h.toNat] W fun e w' => ∃ v, e = .returned (.tuple #[v, .bool b]) ∧ OwnX w' W.heap.size v l ∧ Below W.heap.size W w') := by
  cases hb : isB s with
  | false =>
    refine ⟨false, [], by simp, fun W => (Match_no s h W hs hb).mono ?_, fun W => (MatchR_no s h W hs hb).mono ?_⟩
    · rintro e w' ⟨rfl, rfl⟩; exact ⟨_, rfl, World.ownsRow_nil _ _ _ _, B.b0⟩
    · rintro e w' ⟨rfl, rfl⟩; exact ⟨_, rfl, World.ownsRow_nil _ _ _ _, B.b0⟩
  | true =>
    obtain ⟨T, hT, rfl, h64⟩ := isB_iff.1 hb
    refine ⟨matchB T h, (matchL T h).map str, ?_, fun W => (Match_yes T h W hT h64).mono ?_, fun W => (MatchR_yes T h W hT h64).mono ?_⟩
    · have h1 := Ty.kids_le T
      have h2 := ar_lo (h.toNat : Int)
      have h3 : arB h ≤ 2 := h2.2
      rw [List.length_map]
      unfold matchL
      split
      · omega
      · split
        · rw [List.length_replicate]; omega
        · simp
    · rintro e w' ⟨v, rfl, ho, hb⟩; exact ⟨v, rfl, own_strs ho, hb⟩
    · rintro e w' ⟨v, rfl, ho, hb⟩; exact ⟨v, rfl, own_strs ho, hb⟩
theorem pair_loos (s : ByteArray) (hs : s.size ≤ 4611686018427387904) : ∃ (l : List ByteArray), l.length ≤ 64 ∧
    (∀ W, Calls Tryd.prog 32 #[.string s] W fun e w' => ∃ v, e = .returned v ∧ OwnX w' W.heap.size v l ∧ Below W.heap.size W w') ∧
    (∀ W, Calls Tryd.prog 33 #[.string s] W fun e w' => ∃ v, e = .returned v ∧ OwnX w' W.heap.size v l ∧ Below W.heap.size W w') := by
  cases hb : isB s with
  | false =>
    refine ⟨[], by simp, fun W => (Looser_no s W hs hb).mono ?_, fun W => (LooserR_no s W hs hb).mono ?_⟩
    · rintro e w' ⟨rfl, rfl⟩; exact ⟨_, rfl, World.ownsRow_nil _ _ _ _, B.b0⟩
    · rintro e w' ⟨rfl, rfl⟩; exact ⟨_, rfl, World.ownsRow_nil _ _ _ _, B.b0⟩
  | true =>
    obtain ⟨T, hT, rfl, h64⟩ := isB_iff.1 hb
    refine ⟨(looserT T).map str, ?_, fun W => (Looser_any 64 T W h64 hT h64).mono ?_, fun W => (LooserR_yes T W hT h64).mono ?_⟩
    · rw [List.length_map]; exact Nat.le_trans (looser_many T) h64
    · rintro e w' ⟨v, rfl, ho, hb⟩; exact ⟨v, rfl, own_strs ho, hb⟩
    · rintro e w' ⟨v, rfl, ho, hb⟩; exact ⟨v, rfl, own_strs ho, hb⟩

theorem ownx_below {w w' : World} {base : Nat} {v : Value} {l : List ByteArray} (h : OwnX w base v l) (hb : Below w.heap.size w w') : OwnX w' base v l := own_below h hb
theorem eq_own {w : World} {b1 b2 : Nat} {A A' : Option Addr} {l : List ByteArray} {c c' : Nat} (hl : l.length ≤ 64) (h : OwnX w b1 (.slice A l.length c) l) (h' : OwnX w b2 (.slice A' l.length c') l) :
    Calls Tryd.prog 34 #[.slice A l.length c, .slice A' l.length c'] w fun e w' => e = .returned (.bool true) ∧ Below w.heap.size w w' := by
  obtain ⟨A1, c1, h1, _, _, s1⟩ := Sl.of_own h
  obtain ⟨A2, c2, h2, _, _, s2⟩ := Sl.of_own h'
  injection h1 with e1 _ e2
  injection h2 with e3 _ e4
  subst e1 e2 e3 e4
  exact eqTexts_any l _ _ _ _ w (by omega) s1 s2

set_option maxRecDepth 100000 in
set_option maxHeartbeats 2000000 in
theorem relateOne_any (s : ByteArray) (h : UInt8) (w : World) (hs : s.size ≤ 140737488351232) (ht : Tab w) :
    Calls Tryd.prog 5 #[.string s, .int .u8 h.toNat] w fun e w' => e = .returned (.bool true) ∧ Below w.heap.size w w' := by
  obtain ⟨b, M, hM, m1, m2⟩ := pair_match s h (by omega)
  obtain ⟨L, hL, l1, l2⟩ := pair_loos s (by omega)
  have M1 := Lib.hid m1
  have M2 := Lib.hid m2
  have L1 := Lib.hid l1
  have L2 := Lib.hid l2
  have HT := Lib.hid ht
  clear m1 m2 l1 l2 ht
  generalize (h.toNat : Int) = c at *
  go_enter Tryd.func5, Tryd.ntmps5
  by_cases hl : 2147483647 < s.size
  · go_wp2_with (go_at_call 29; go_in)
    go_ret
    exact ⟨rfl, B.b0⟩
  · go_wp2_with (go_at_call 29; go_in)
    refine (M1.out _).mono ?_
    rintro e w1 ⟨va, rfl, oa, hb1⟩
    have ia := In.of_own oa
    obtain ⟨Aa, ca, rfl, _, _⟩ := own_shape oa
    have OA := Lib.hid oa
    clear oa
    go_wp2_with fail
    refine (M1.out _).mono ?_
    rintro e w2 ⟨vb, rfl, ob, hb2⟩
    have ib := In.of_own ob
    obtain ⟨Ab, cb, rfl, _, _⟩ := own_shape ob
    have OA := Lib.hid (ownx_below OA.out hb2)
    have OB := Lib.hid ob
    have hc2 := bl hb1 hb2
    clear ob
    go_wp2_with fail
    refine (M2.out _).mono ?_
    rintro e w3 ⟨vm, rfl, om, hb3⟩
    obtain ⟨Am, cm, rfl, _, _⟩ := own_shape om
    have OA := Lib.hid (ownx_below OA.out hb3)
    have OB := Lib.hid (ownx_below OB.out hb3)
    have OM := Lib.hid om
    have hc3 := bl hc2 hb3
    clear om
    go_wp2_with fail
    refine (L1.out _).mono ?_
    rintro e w4 ⟨vl, rfl, ol, hb4⟩
    have il := In.of_own ol
    obtain ⟨Al, cl, rfl, _, _⟩ := own_shape ol
    have OA := Lib.hid (ownx_below OA.out hb4)
    have OB := Lib.hid (ownx_below OB.out hb4)
    have OM := Lib.hid (ownx_below OM.out hb4)
    have OL := Lib.hid ol
    have hc4 := bl hc3 hb4
    clear ol
    go_wp2_with fail
    refine (L1.out _).mono ?_
    rintro e w5 ⟨vk, rfl, ok, hb5⟩
    have ik := In.of_own ok
    obtain ⟨Ak, ck, rfl, _, _⟩ := own_shape ok
    have OA := Lib.hid (ownx_below OA.out hb5)
    have OB := Lib.hid (ownx_below OB.out hb5)
    have OM := Lib.hid (ownx_below OM.out hb5)
    have OL := Lib.hid (ownx_below OL.out hb5)
    have OK := Lib.hid ok
    have hc5 := bl hc4 hb5
    clear ok
    go_wp2_with fail
    refine (L2.out _).mono ?_
    rintro e w6 ⟨vs, rfl, os, hb6⟩
    obtain ⟨As, cs, rfl, _, _⟩ := own_shape os
    have OA := Lib.hid (ownx_below OA.out hb6)
    have OB := Lib.hid (ownx_below OB.out hb6)
    have OM := Lib.hid (ownx_below OM.out hb6)
    have OL := Lib.hid (ownx_below OL.out hb6)
    have OK := Lib.hid (ownx_below OK.out hb6)
    have OS := Lib.hid os
    have hc6 := bl hc5 hb6
    clear os
    have nb : (b != b) = false := by cases b <;> rfl
    go_wp2_with fail
    refine (eq_own hM OA.out OM.out).mono ?_
    rintro e w7 ⟨rfl, hb7⟩
    have OA := Lib.hid (ownx_below OA.out hb7)
    have OB := Lib.hid (ownx_below OB.out hb7)
    have OM := Lib.hid (ownx_below OM.out hb7)
    have OL := Lib.hid (ownx_below OL.out hb7)
    have OK := Lib.hid (ownx_below OK.out hb7)
    have OS := Lib.hid (ownx_below OS.out hb7)
    have hc7 := bl hc6 hb7
    go_wp2_with fail
    refine (eq_own hM OB.out OM.out).mono ?_
    rintro e w8 ⟨rfl, hb8⟩
    have OA := Lib.hid (ownx_below OA.out hb8)
    have OB := Lib.hid (ownx_below OB.out hb8)
    have OL := Lib.hid (ownx_below OL.out hb8)
    have OK := Lib.hid (ownx_below OK.out hb8)
    have OS := Lib.hid (ownx_below OS.out hb8)
    have hc8 := bl hc7 hb8
    clear OM
    go_wp2_with fail
    refine (eq_own hL OL.out OS.out).mono ?_
    rintro e w9 ⟨rfl, hb9⟩
    have OA := Lib.hid (ownx_below OA.out hb9)
    have OB := Lib.hid (ownx_below OB.out hb9)
    have OL := Lib.hid (ownx_below OL.out hb9)
    have OK := Lib.hid (ownx_below OK.out hb9)
    have OS := Lib.hid (ownx_below OS.out hb9)
    have hc9 := bl hc8 hb9
    go_wp2_with fail
    refine (eq_own hL OK.out OS.out).mono ?_
    rintro e w10 ⟨rfl, hb10⟩
    have OA := Lib.hid (ownx_below OA.out hb10)
    have OB := Lib.hid (ownx_below OB.out hb10)
    have OL := Lib.hid (ownx_below OL.out hb10)
    have OK := Lib.hid (ownx_below OK.out hb10)
    have hc10 := bl hc9 hb10
    have z1 := hb1.size
    have z2 := hb2.size
    have z3 := hb3.size
    have z4 := hb4.size
    have z5 := hb5.size
    have z6 := hb6.size
    have z7 := hb7.size
    have z8 := hb8.size
    have z9 := hb9.size
    have z10 := hb10.size
    clear hb1 hb2 hb3 hb4 hb5 hb6 hb7 hb8 hb9 hb10 hc2 hc3 hc4 hc5 hc6 hc7 hc8 hc9 OS M1 M2 L1 L2
    go_wp2_with fail
    have hr0 := bag_new w10 64
    have hg0 : Below w10.heap.size w10 (w10.alloc (.cells bagCells 64)) := Below.alloc (Below.refl _ _) (Nat.le_refl _) _
    refine (addTexts_any w10.heap.size (w10.heap.size + 1) 0 (fun _ => nilV) [] Aa _ ca _ hr0 (World.ownsRow_nil _ _ _ _) (by omega) (by omega) (by simp)).mono ?_
    rintro e w11 ⟨rfl, f1, hr1, hf1, ho1, hd1⟩
    have hg1 := hg0.trans hd1
    go_wp2_with fail
    refine (addTexts_any w10.heap.size (w10.heap.size + 1) 1 f1 _ Ab _ cb _ hr1 ho1 (by omega) (by omega) (by have := hr1.lt; omega)).mono ?_
    rintro e w12 ⟨rfl, f2, hr2, hf2, ho2, hd2⟩
    have hg2 := hg1.trans hd2
    go_wp2_with fail
    refine (addTexts_any w10.heap.size (w10.heap.size + 1) 2 f2 _ Al _ cl _ hr2 ho2 (by omega) (by omega) (by have := hr2.lt; omega)).mono ?_
    rintro e w13 ⟨rfl, f3, hr3, hf3, ho3, hd3⟩
    have hg3 := hg2.trans hd3
    go_wp2_with fail
    refine (addTexts_any w10.heap.size (w10.heap.size + 1) 3 f3 _ Ak _ ck _ hr3 ho3 (by omega) (by omega) (by have := hr3.lt; omega)).mono ?_
    rintro e w14 ⟨rfl, f4, hr4, hf4, ho4, hd4⟩
    have hg4 := hg3.trans hd4
    go_wp2_with fail
    have hall := below_from hc10 (hg4.mono (Nat.le_refl _)) hc10.size
    have hz : w10.heap.size + 1 ≤ w14.heap.size := by have := hr4.lt; omega
    have Ra := own_keep OA.out hg4 (fun b hb => by have := ia b hb; omega)
    have Rb := own_keep (own_less OB.out z1) hg4 (fun b hb => by have := ib b hb; omega)
    have Rl := own_keep (own_less OL.out (base' := w.heap.size) (by omega)) hg4 (fun b hb => by have := il b hb; omega)
    have Rk := own_keep (own_less OK.out (base' := w.heap.size) (by omega)) hg4 (fun b hb => by have := ik b hb; omega)
    have hA := apart_texts w HT.out w10.heap.size w.heap.size 4 f4 (fun m => [Value.slice Aa M.length ca, .slice Ab M.length cb, .slice Al L.length cl, .slice Ak L.length ck].getD m nilV) (fun m => [M.length, M.length, L.length, L.length].getD m 0) w14 hr4
      (fun k hk => by rw [hf4 k hk, hf3 k hk, hf2 k hk, hf1 k hk]) ho4 (by omega) (by omega)
      (fin4 ⟨_, Ra⟩ ⟨_, Rb⟩ ⟨_, Rl⟩ ⟨_, Rk⟩)
      (fin4 (fun b hb => by have := ia b hb; omega) (fun b hb => by have := ib b hb; omega) (fun b hb => by have := il b hb; omega) (fun b hb => by have := ik b hb; omega))
      (ap4 (ia.ap ib (Nat.le_refl _)) (ia.ap il (by omega)) (ia.ap ik (by omega)) (ib.ap il (by omega)) (ib.ap ik (by omega)) (il.ap ik (Nat.le_refl _)))
      (fin4 (by show M.length ≤ _; omega) (by show M.length ≤ _; omega) (by show L.length ≤ _; omega) (by show L.length ≤ _; omega)) (by omega) hall (Nat.le_refl _)
    have hCB : ∀ k, (∃ m, m < 4 ∧ ([Value.slice Aa M.length ca, .slice Ab M.length cb, .slice Al L.length cl, .slice Ak L.length ck].getD m nilV).ownBlock = some k) → w.heap.size ≤ k := by
      rintro k ⟨m, hm, e⟩
      rcases m with _|_|_|_|m
      · exact (ia k e).1
      · have := (ib k e).1; omega
      · have := (il k e).1; omega
      · have := (ik k e).1; omega
      · omega
    have HA := Lib.hid hA
    have HCB := Lib.hid hCB
    clear hA hCB Ra Rb Rl Rk hf1 hf2 hf3 hf4 ho1 ho2 ho3 ho4 hr1 hr2 hr3 hr4 hr0
    refine HA.out.mono ?_
    rintro e w15 ⟨rfl, hbut⟩
    have hb15 : Below w.heap.size w w15 := hall.trans (hbut.below (by omega) HCB.out)
    clear hbut HA HCB
    go_wp2_with fail
    refine (lives03 _).mono ?_
    rintro e w16 ⟨rfl, hb16⟩
    go_wp2_with fail
    go_ret
    exact ⟨rfl, bl hb15 hb16⟩

theorem relateOne_int (s : ByteArray) (n : Int) (w : World) (h0 : 0 ≤ n) (h1 : n ≤ 255) (hs : s.size ≤ 140737488351232) (ht : Tab w) :
    Calls Tryd.prog 5 #[.string s, .int .u8 n] w fun e w' => e = .returned (.bool true) ∧ Below w.heap.size w w' := by
  obtain ⟨h, rfl⟩ : ∃ h : UInt8, n = (h.toNat : Int) := ⟨UInt8.ofNat n.toNat, by rw [UInt8.toNat_ofNat_of_lt' (by show n.toNat < 256; omega)]; omega⟩
  exact relateOne_any s h w hs ht
end Go.Proofs.YthonnpjlkcjoeaaDoor.T
