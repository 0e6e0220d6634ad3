/- TypesTells' walk. -/
import Derived.Test.YthonnpjlkcjoeaaGreatDoorTellW
import Derived.Test.YthonnpjlkcjoeaaGreatDoorTxE
import Derived.Test.YthonnpjlkcjoeaaGreatDoorTypS
import Derived.Test.YthonnpjlkcjoeaaGreatDoorLive2
import Derived.Test.YthonnpjlkcjoeaaGreatDoorBagUT
import Derived.Test.YthonnpjlkcjoeaaGreatDoorBagV
namespace Go.Proofs.YthonnpjlkcjoeaaGreatDoor.T
open Go.RowKit Go.Proofs.YthonnpjlkcjoeaaGreatDoor.B
set_option linter.unusedSimpArgs false
set_option linter.unusedVariables false

/-- A list of texts of one's own. -/
def OwnX (w : World) (base : Nat) (v : Value) (l : List ByteArray) : Prop := w.ownsRow base 9 1 v l.length (tvals l)
theorem own_strs {w : World} {base : Nat} {v : Value} {l : List Ty} (h : w.ownsRow base 9 1 v l.length (l.map strV)) : OwnX w base v (l.map str) := by
  unfold OwnX
  rw [List.length_map, tvals, List.map_map]
  exact h
theorem ownx_below {w w' : World} {base : Nat} {v : Value} {l : List ByteArray} (h : OwnX w base v l) (hb : Below w.heap.size w w') : OwnX w' base v l := own_below h hb
theorem eq_own {w : World} {b1 b2 : Nat} {A A' : Option Addr} {l : List ByteArray} {c c' : Nat} (hl : l.length ≤ 64) (h : OwnX w b1 (.slice A l.length c) l) (h' : OwnX w b2 (.slice A' l.length c') l) :
    Calls Tryz.prog 11 #[.slice A l.length c, .slice A' l.length c'] w fun e w' => e = .returned (.bool true) ∧ Below w.heap.size w w' := by
  obtain ⟨A1, c1, h1, _, _, s1⟩ := Sl.of_own h
  obtain ⟨A2, c2, h2, _, _, s2⟩ := Sl.of_own h'
  injection h1 with e1 _ e2
  injection h2 with e3 _ e4
  subst e1 e2 e3 e4
  exact eqTexts_any l _ _ _ _ w (by omega) s1 s2

abbrev CallsV (f : FuncId) (s : ByteArray) (v : Value) : Prop := ∀ W, Calls Tryz.prog f #[.string s] W fun e w' => e = .returned v ∧ Below W.heap.size W w'
abbrev CallsX (f : FuncId) (s : ByteArray) (l : List ByteArray) : Prop := ∀ W, Calls Tryz.prog f #[.string s] W fun e w' => ∃ v, e = .returned v ∧ OwnX w' W.heap.size v l ∧ Below W.heap.size W w'

theorem same_v {f : FuncId} {s : ByteArray} {v : Value} (h : ∀ W, Calls Tryz.prog f #[.string s] W fun e w' => e = .returned v ∧ W = w') : CallsV f s v := fun W =>
  (h W).mono fun e w' ⟨h1, h2⟩ => ⟨h1, by subst h2; exact Below.refl _ _⟩

/-- What is told of a text, by the program and by the answer alike. -/
theorem tells (s : ByteArray) (hs : s.size ≤ 4611686018427387904) : ∃ (E at_ : Nat) (wd : ByteArray) (g : ByteArray) (h : Nat) (l : List ByteArray) (st : Bool) (hi : Nat), l.length ≤ 64 ∧
    CallsV 5 s (.tuple #[.int .i64 E, .int .i64 at_]) ∧ CallsV 6 s (.tuple #[.int .i64 E, .int .i64 at_]) ∧
    CallsX 7 s l ∧ CallsX 8 s l ∧
    CallsV 9 s (.tuple #[.string wd, .int .i64 E]) ∧ CallsV 10 s (.tuple #[.string wd, .int .i64 E]) ∧
    CallsV 12 s (.int .u8 h) ∧ CallsV 13 s (.int .u8 h) ∧
    CallsV 14 s (.string g) ∧ CallsV 15 s (.string g) ∧
    CallsV 16 s (.bool st) ∧ CallsV 17 s (.bool st) ∧
    CallsV 18 s (.int .i64 hi) ∧ CallsV 19 s (.int .i64 hi) := by
  cases hb : isB s with
  | false =>
    refine ⟨(checkL s.data.toList).1, (checkL s.data.toList).2, ⟨#[]⟩, ⟨#[]⟩, 0, [], _, 0, by simp, same_v fun W => check_any s W hs, same_v fun W => checkR_any s W hs, ?_, ?_, same_v fun W => Words_no s W hs hb, same_v fun W => WordsR_no s W hs hb,
      same_v fun W => Head_no s W hs hb, same_v fun W => HeadR_no s W hs hb, same_v fun W => ground_dyn s W hs (.inl hb), same_v fun W => groundR_dyn s W hs (.inl hb), fun W => Static_any s W hs, same_v fun W => StaticR_any s W hs,
      same_v fun W => Height_no s W hs hb, same_v fun W => HeightR_no s W hs hb⟩
    · intro W; refine (Parts_no s W hs hb).mono ?_; rintro e w' ⟨rfl, rfl⟩; exact ⟨_, rfl, World.ownsRow_nil _ _ _ _, B.b0⟩
    · intro W; refine (PartsRef_no s W hs hb).mono ?_; rintro e w' ⟨rfl, rfl⟩; exact ⟨_, rfl, World.ownsRow_nil _ _ _ _, B.b0⟩
  | true =>
    obtain ⟨T, hT, rfl, h64⟩ := isB_iff.1 hb
    have hck : (checkL (str T).data.toList).1 = 0 := by unfold isB at hb; simpa using hb
    have h1 : CallsX 7 (str T) (T.kids.map str) := fun W => by
      refine (Parts_yes T W hT h64).mono ?_; rintro e w' ⟨v, rfl, ho, hb⟩; exact ⟨v, rfl, own_strs ho, hb⟩
    have h2 : CallsX 8 (str T) (T.kids.map str) := fun W => by
      refine (PartsRef_yes T W hT h64).mono ?_; rintro e w' ⟨v, rfl, ho, hb⟩; exact ⟨v, rfl, own_strs ho, hb⟩
    have hc1 : CallsV 5 (str T) (.tuple #[.int .i64 (0 : Nat), .int .i64 (checkL (str T).data.toList).2]) := same_v fun W => by have := check_any (str T) W hs; rw [hck] at this; exact this
    have hc2 : CallsV 6 (str T) (.tuple #[.int .i64 (0 : Nat), .int .i64 (checkL (str T).data.toList).2]) := same_v fun W => by have := checkR_any (str T) W hs; rw [hck] at this; exact this
    have hkl : (T.kids.map str).length ≤ 64 := by rw [List.length_map]; have := Ty.kids_le T; omega
    by_cases hq : T.head = 63
    · exact ⟨0, _, bs (wordsT T), ⟨#[]⟩, T.head.toNat, _, _, T.high, hkl, hc1, hc2, h1, h2, fun W => Words_yes T W hT h64, fun W => WordsR_yes T W hT h64, same_v fun W => Head_yes T W hT h64, same_v fun W => HeadR_yes T W hT h64,
        same_v fun W => ground_dyn _ W hs (.inr ⟨T, hT, h64, rfl, hq⟩), same_v fun W => groundR_dyn _ W hs (.inr ⟨T, hT, h64, rfl, hq⟩), fun W => Static_any _ W hs, same_v fun W => StaticR_any _ W hs, fun W => Height_any 64 T W h64 hT h64, fun W => HeightR_any 64 T W h64 hT h64⟩
    · exact ⟨0, _, bs (wordsT T), bs (groundL T), T.head.toNat, _, _, T.high, hkl, hc1, hc2, h1, h2, fun W => Words_yes T W hT h64, fun W => WordsR_yes T W hT h64, same_v fun W => Head_yes T W hT h64, same_v fun W => HeadR_yes T W hT h64,
        fun W => ground_any T W hT h64 hq, same_v fun W => groundR_any T W hT h64 hq, fun W => Static_any _ W hs, same_v fun W => StaticR_any _ W hs, fun W => Height_any 64 T W h64 hT h64, fun W => HeightR_any 64 T W h64 hT h64⟩

set_option maxRecDepth 100000 in
set_option maxHeartbeats 2000000 in
theorem typesTells_any (s : ByteArray) (w : World) (hs : s.size ≤ 140737488351232) (ht : Tab w) :
    Calls Tryz.prog 3 #[.string s] w fun e w' => e = .returned (.bool true) ∧ Below w.heap.size w w' := by
  obtain ⟨E, at_, wd, gr, hd, M, st, hi, hM, ck1, ck2, pt1, pt2, wd1, wd2, hd1, hd2, gr1, gr2, st1, st2, hi1, hi2⟩ := tells s (by omega)
  unfold CallsV at ck1 ck2 wd1 wd2 hd1 hd2 gr1 gr2 st1 st2 hi1 hi2
  unfold CallsX at pt1 pt2
  have Hck1 := Lib.hid ck1
  have Hck2 := Lib.hid ck2
  have Hpt1 := Lib.hid pt1
  have Hpt2 := Lib.hid pt2
  have Hwd1 := Lib.hid wd1
  have Hwd2 := Lib.hid wd2
  have Hhd1 := Lib.hid hd1
  have Hhd2 := Lib.hid hd2
  have Hgr1 := Lib.hid gr1
  have Hgr2 := Lib.hid gr2
  have Hst1 := Lib.hid st1
  have Hst2 := Lib.hid st2
  have Hhi1 := Lib.hid hi1
  have Hhi2 := Lib.hid hi2
  clear ck1 ck2 pt1 pt2 wd1 wd2 hd1 hd2 gr1 gr2 st1 st2 hi1 hi2
  have HT := Lib.hid ht
  clear ht
  go_enter Tryz.func3, Tryz.ntmps3
  by_cases hl : 2147483647 < s.size
  · go_wp2_with (go_at_call 4; go_in)
    go_ret
    exact ⟨rfl, B.b0⟩
  · go_wp2_with (go_at_call 4; go_in)
    refine (Hck1.out _).mono ?_
    rintro e w1 ⟨rfl, hb1⟩
    have hc1 := hb1
    go_wp2_with fail
    refine (Hck2.out _).mono ?_
    rintro e w2 ⟨rfl, hb2⟩
    have hc2 := bl hc1 hb2
    go_wp2_with fail
    refine (Hpt1.out _).mono ?_
    rintro e w3 ⟨va, rfl, oa, hb3⟩
    have ia := In.of_own oa
    obtain ⟨Aa, ca, rfl, _, _⟩ := own_shape oa
    have Oa := Lib.hid oa
    clear oa
    have hc3 := bl hc2 hb3
    go_wp2_with fail
    refine (Hpt1.out _).mono ?_
    rintro e w4 ⟨vb, rfl, ob, hb4⟩
    have ib := In.of_own ob
    obtain ⟨Ab, cb, rfl, _, _⟩ := own_shape ob
    have Oa := Lib.hid (ownx_below Oa.out hb4)
    have Ob := Lib.hid ob
    clear ob
    have hc4 := bl hc3 hb4
    go_wp2_with fail
    refine (Hpt2.out _).mono ?_
    rintro e w5 ⟨vm, rfl, om, hb5⟩
    have im := In.of_own om
    obtain ⟨Am, cm, rfl, _, _⟩ := own_shape om
    have Oa := Lib.hid (ownx_below Oa.out hb5)
    have Ob := Lib.hid (ownx_below Ob.out hb5)
    have Om := Lib.hid om
    clear om
    have hc5 := bl hc4 hb5
    go_wp2_with fail
    refine (Hwd1.out _).mono ?_
    rintro e w6 ⟨rfl, hb6⟩
    have Oa := Lib.hid (ownx_below Oa.out hb6)
    have Ob := Lib.hid (ownx_below Ob.out hb6)
    have Om := Lib.hid (ownx_below Om.out hb6)
    have hc6 := bl hc5 hb6
    go_wp2_with fail
    refine (Hwd2.out _).mono ?_
    rintro e w7 ⟨rfl, hb7⟩
    have Oa := Lib.hid (ownx_below Oa.out hb7)
    have Ob := Lib.hid (ownx_below Ob.out hb7)
    have Om := Lib.hid (ownx_below Om.out hb7)
    have hc7 := bl hc6 hb7
    go_wp2_with fail
    refine (eq_own hM Oa.out Om.out (c := ca)).mono ?_
    rintro e w8 ⟨rfl, hb8⟩
    have Oa := Lib.hid (ownx_below Oa.out hb8)
    have Ob := Lib.hid (ownx_below Ob.out hb8)
    have Om := Lib.hid (ownx_below Om.out hb8)
    have hc8 := bl hc7 hb8
    go_wp2_with fail
    refine (eq_own hM Ob.out Om.out (c := cb)).mono ?_
    rintro e w9 ⟨rfl, hb9⟩
    have Oa := Lib.hid (ownx_below Oa.out hb9)
    have Ob := Lib.hid (ownx_below Ob.out hb9)
    have Om := Lib.hid (ownx_below Om.out hb9)
    have hc9 := bl hc8 hb9
    go_wp2_with fail
    refine (Hhd1.out _).mono ?_
    rintro e w10 ⟨rfl, hb10⟩
    have Oa := Lib.hid (ownx_below Oa.out hb10)
    have Ob := Lib.hid (ownx_below Ob.out hb10)
    have hc10 := bl hc9 hb10
    go_wp2_with fail
    refine (Hhd2.out _).mono ?_
    rintro e w11 ⟨rfl, hb11⟩
    have Oa := Lib.hid (ownx_below Oa.out hb11)
    have Ob := Lib.hid (ownx_below Ob.out hb11)
    have hc11 := bl hc10 hb11
    go_wp2_with fail
    refine (Hgr1.out _).mono ?_
    rintro e w12 ⟨rfl, hb12⟩
    have Oa := Lib.hid (ownx_below Oa.out hb12)
    have Ob := Lib.hid (ownx_below Ob.out hb12)
    have hc12 := bl hc11 hb12
    go_wp2_with fail
    refine (Hgr2.out _).mono ?_
    rintro e w13 ⟨rfl, hb13⟩
    have Oa := Lib.hid (ownx_below Oa.out hb13)
    have Ob := Lib.hid (ownx_below Ob.out hb13)
    have hc13 := bl hc12 hb13
    go_wp2_with fail
    refine (Hst1.out _).mono ?_
    rintro e w14 ⟨rfl, hb14⟩
    have Oa := Lib.hid (ownx_below Oa.out hb14)
    have Ob := Lib.hid (ownx_below Ob.out hb14)
    have hc14 := bl hc13 hb14
    go_wp2_with fail
    refine (Hst2.out _).mono ?_
    rintro e w15 ⟨rfl, hb15⟩
    have Oa := Lib.hid (ownx_below Oa.out hb15)
    have Ob := Lib.hid (ownx_below Ob.out hb15)
    have hc15 := bl hc14 hb15
    go_wp2_with fail
    refine (Hhi1.out _).mono ?_
    rintro e w16 ⟨rfl, hb16⟩
    have Oa := Lib.hid (ownx_below Oa.out hb16)
    have Ob := Lib.hid (ownx_below Ob.out hb16)
    have hc16 := bl hc15 hb16
    go_wp2_with fail
    refine (Hhi2.out _).mono ?_
    rintro e w17 ⟨rfl, hb17⟩
    have Oa := Lib.hid (ownx_below Oa.out hb17)
    have Ob := Lib.hid (ownx_below Ob.out hb17)
    have hc17 := bl hc16 hb17
    go_wp2_with fail
    have hr0 := bag_new w17 55
    have hg0 : Below w17.heap.size w17 (w17.alloc (.cells bagCells 55)) := Below.alloc (Below.refl _ _) (Nat.le_refl _) _
    have z1 := hb1.size
    have z2 := hb2.size
    have z3 := hb3.size
    have z4 := hb4.size
    have z5 := hb5.size
    have z6 := hb6.size
    have z7 := hb7.size
    have z8 := hb8.size
    have z9 := hb9.size
    have z10 := hb10.size
    have z11 := hb11.size
    have z12 := hb12.size
    have z13 := hb13.size
    have z14 := hb14.size
    have z15 := hb15.size
    have z16 := hb16.size
    have z17 := hb17.size
    clear hb1 hb2 hb3 hb4 hb5 hb6 hb7 hb8 hb9 hb10 hb11 hb12 hb13 hb14 hb15 hb16 hb17 hc1 hc2 hc3 hc4 hc5 hc6 hc7 hc8 hc9 hc10 hc11 hc12 hc13 hc14 hc15 hc16
    refine (addTexts_any w17.heap.size (w17.heap.size + 1) 0 (fun _ => nilV) [] Aa _ ca _ hr0 (World.ownsRow_nil _ _ _ _) (by omega) (by omega) (by simp)).mono ?_
    rintro e u1 ⟨rfl, f1, hr1, hf1, ho1, hd1⟩
    have hg1 := hg0.trans hd1
    go_wp2_with fail
    refine (addTexts_any w17.heap.size (w17.heap.size + 1) 1 f1 _ Ab _ cb _ hr1 ho1 (by omega) (by omega) (by have := hr1.lt; omega)).mono ?_
    rintro e u2 ⟨rfl, f2, hr2, hf2, ho2, hd2⟩
    have hg2 := hg1.trans hd2
    go_wp2_with fail
    have hall := below_from hc17 hg2 hc17.size
    have hz : w17.heap.size + 1 ≤ u2.heap.size := by have := hr2.lt; omega
    have Ra := own_keep (own_less Oa.out (base' := w.heap.size) (by omega)) hg2 (fun b hb => by have := ia b hb; omega)
    have Rb := own_keep (own_less Ob.out (base' := w.heap.size) (by omega)) hg2 (fun b hb => by have := ib b hb; omega)
    have hA := apart_texts w HT.out w17.heap.size w.heap.size 2 f2 (fun m => [Value.slice Aa M.length ca, .slice Ab M.length cb].getD m nilV) (fun m => [M.length, M.length].getD m 0) u2 hr2
      (fun k hk => by rw [hf2 k hk, hf1 k hk]) ho2 (by omega) (by omega) (fin2 ⟨_, Ra⟩ ⟨_, Rb⟩)
      (fin2 (fun b hb => by have := ia b hb; omega) (fun b hb => by have := ib b hb; omega)) (ap2 (ia.ap ib (by omega)))
      (fin2 (by show M.length ≤ _; omega) (by show M.length ≤ _; omega)) (by omega) hall (Nat.le_refl _)
    have hCB : ∀ k, (∃ m, m < 2 ∧ ([Value.slice Aa M.length ca, .slice Ab M.length cb].getD m nilV).ownBlock = some k) → w.heap.size ≤ k := by
      rintro k ⟨m, hm, e⟩
      rcases m with _|_|m
      · have := (ia k e).1; omega
      · have := (ib k e).1; omega
      · omega
    have HA := Lib.hid hA
    have HCB := Lib.hid hCB
    clear hA hCB Ra Rb hf1 hf2 ho1 ho2 hr1 hr2 hr0
    refine HA.out.mono ?_
    rintro e u3 ⟨rfl, hbut⟩
    have hb15 : Below w.heap.size w u3 := hall.trans (hbut.below (by omega) HCB.out)
    clear hbut HA HCB
    go_wp2_with fail
    refine (lives02 _).mono ?_
    rintro e u4 ⟨rfl, hb16⟩
    go_wp2_with fail
    go_ret
    exact ⟨rfl, bl hb15 hb16⟩
end Go.Proofs.YthonnpjlkcjoeaaGreatDoor.T
