/- TypesRound's walk. (Printed by gen_round.py.) -/
import Derived.Test.YthonnpjlkcjoeaaReadW
import Derived.Test.YthonnpjlkcjoeaaMake
import Derived.Test.YthonnpjlkcjoeaaTypS
namespace Go.Proofs.Ythonnpjlkcjoeaa.T
open Go.RowKit Go.Proofs.Ythonnpjlkcjoeaa.B
set_option linter.unusedSimpArgs false
set_option linter.unusedVariables false

theorem code_letters (T : Ty) : T.ok → ∀ c ∈ T.code, 0 ≤ arB c := by
  induction T with
  | leaf h => intro hk c hc; rw [show c = h by simpa [Ty.code] using hc, show arB h = 0 from hk]; exact Int.le_refl 0
  | un h a ih =>
    intro hk c hc
    rcases List.mem_cons.1 hc with rfl | hc
    · rw [show arB c = 1 from hk.1]; decide
    · exact ih hk.2 c hc
  | bin h a b iha ihb =>
    intro hk c hc
    rcases List.mem_cons.1 hc with rfl | hc
    · rw [show arB c = 2 from hk.1]; decide
    · rcases List.mem_append.1 hc with hc | hc
      · exact iha hk.2.1 c hc
      · exact ihb hk.2.2 c hc
theorem skip_bad (l : List UInt8) (h : ∀ c ∈ l, 0 ≤ arB c) : ∀ n, (skipN l n).2 = false → (skipN l n).1 = l.length := by
  induction l with
  | nil => intro n hn; cases n <;> simp [skipN] at hn ⊢
  | cons c l ih =>
    intro n hn
    cases n with
    | zero => simp [skipN] at hn
    | succ n =>
      have h0 := h c (by simp)
      simp only [skipN] at hn ⊢
      rw [if_neg (by omega)] at hn ⊢
      simp only [List.length_cons]
      rw [ih (fun d hd => h d (by simp [hd])) _ hn]
theorem check_prefix {T : Ty} (hk : T.ok) (h64 : T.code.length ≤ 64) (i : Nat) (hi : i < T.code.length) : checkL (T.code.take i) = (20, i) := by
  have hl : (T.code.take i).length = i := by rw [List.length_take]; omega
  have hf : (skipN (T.code.take i) 1).2 = false := by
    cases hb : (skipN (T.code.take i) 1).2
    · rfl
    · obtain ⟨ts, h1, h2, r, h3, h4⟩ := skipN_types _ 1 hb
      obtain ⟨U, rfl⟩ := List.length_eq_one_iff.1 h1
      simp only [List.flatMap_cons, List.flatMap_nil, List.append_nil] at h3
      have hU := h2 U (by simp)
      have e : T.code = U.code ++ (r ++ T.code.drop i) := by
        rw [← List.append_assoc, ← h3, List.take_append_drop]
      have a1 := skipN_code T hk [] 0
      have a2 := skipN_code U hU (r ++ T.code.drop i) 0
      rw [List.append_nil] at a1
      rw [← e] at a2
      have hz : ∀ x, skipN x 0 = (0, true) := fun x => by cases x <;> rfl
      have hlen := congrArg List.length h3
      rw [hl, List.length_append] at hlen
      have := congrArg Prod.fst (a1.symm.trans a2)
      simp only [hz, Nat.zero_add] at this
      omega
  have hp := skip_bad (T.code.take i) (fun c hc => code_letters T hk c (List.mem_of_mem_take hc)) 1 hf
  unfold checkL
  rw [hl, if_neg (by omega), if_pos (.inl hf), hp, hl]

theorem kid_high {T k : Ty} (hk : k ∈ T.kids) : k.high < T.high := by
  cases T with
  | leaf h => simp [Ty.kids] at hk
  | un h a => simp [Ty.kids] at hk; subst hk; simp [Ty.high]
  | bin h a b =>
    simp [Ty.kids] at hk
    rcases hk with rfl | rfl <;> simp only [Ty.high] <;> omega
theorem kid_static {T k : Ty} (hk : k ∈ T.kids) (h : T.code.contains 63 = false) : k.code.contains 63 = false := by
  cases hc : k.code.contains 63
  · rfl
  · have : (63 : UInt8) ∈ k.code := by simpa using hc
    have : (63 : UInt8) ∈ T.code := by
      rw [Ty.code_eq]
      exact List.mem_cons_of_mem _ (List.mem_flatMap.2 ⟨k, hk, this⟩)
    rw [show T.code.contains 63 = true by simpa using this] at h
    cases h

def ReadsTo (x t : ByteArray) (E P : Nat) : Prop := ∀ W, Calls Try.prog 30 #[.string x] W fun e w' => e = .returned (.tuple #[.string t, .int .i64 E, .int .i64 P]) ∧ Below W.heap.size W w'
def WordsTo (t x : ByteArray) : Prop := ∀ W, Calls Try.prog 33 #[.string t] W fun e w' => e = .returned (.tuple #[.string x, .int .i64 0]) ∧ Below W.heap.size W w'
theorem reads_words (T : Ty) (hk : T.ok) (h64 : T.code.length ≤ 64) : ReadsTo (bs (wordsT T)) (str T) 0 0 := fun W => by
  have hw := wordsT_len T
  refine (ReadP_any (bs (wordsT T)) W (by rw [bs_size]; omega)).mono fun e w' ⟨h, hb⟩ => ⟨?_, hb⟩
  rw [h]
  unfold ReadV
  rw [bs_list, read_words hk h64]
  rfl
theorem reads_any (x : ByteArray) (hx : x.size ≤ 2147483647) : (∃ (t : ByteArray) (E P : Nat), ReadsTo x t E P ∧ ((E : Int) == 0) = false) ∨ ∃ (T : Ty) (P : Nat), T.ok ∧ T.code.length ≤ 64 ∧ ReadsTo x (str T) 0 P := by
  by_cases h0 : (readL x.data.toList).2.1 = 0
  · obtain ⟨T, h1, h2, h3⟩ := read_ty h0
    refine .inr ⟨T, (readL x.data.toList).2.2, h1, h3, fun W => ?_⟩
    refine (ReadP_any x W hx).mono fun e w' ⟨h, hb⟩ => ⟨?_, hb⟩
    rw [h]
    unfold ReadV
    rw [h0, ← h2]
    rfl
  · exact .inl ⟨bs (readL x.data.toList).1, (readL x.data.toList).2.1, (readL x.data.toList).2.2, fun W => ReadP_any x W hx, by simpa using h0⟩

set_option maxRecDepth 100000 in
set_option maxHeartbeats 4000000 in
theorem round_nn (s x : ByteArray) (w : World) (hl : (s.size : Int) + (x.size : Int) ≤ 2147483647) (u : ByteArray) (E P : Nat) (hr : ReadsTo x u E P) (hE : ((E : Int) == 0) = false) (hs : isB s = false) :
    Calls Try.prog 8 #[.string s, .string x] w fun e w' => e = .returned (.bool true) ∧ Below w.heap.size w w' := by
  have c1 := Lib.hid fun W => check_any s W (by omega)
  have t1 : (((checkL s.data.toList).1 : Int) != 0) = true := by unfold isB at hs; simpa using hs
  obtain ⟨C, hC⟩ : ∃ C, checkL s.data.toList = C := ⟨_, rfl⟩
  rw [hC] at c1 t1
  obtain ⟨C1, C2⟩ := C
  simp only at c1 t1
  have c2 := Lib.hid fun W => Head_no s W (by omega) hs
  have c3 := Lib.hid fun W => Parts_no s W (by omega) hs
  have c4 := Lib.hid fun W => Height_no s W (by omega) hs
  clear hs hC
  unfold ReadsTo at hr
  have m1 := Lib.hid hr
  clear hr
  go_enter Try.func8, Try.ntmps8
  go_wp2_with (go_at_call 16; go_in)
  refine (m1.out _).mono ?_
  rintro e w1 ⟨rfl, hb⟩
  go_wp2_with fail
  refine (c1.out _).mono ?_
  rintro e w1 ⟨rfl, rfl⟩
  go_wp2_with fail
  refine (c2.out _).mono ?_
  rintro e w1 ⟨rfl, rfl⟩
  go_wp2_with fail
  refine (c3.out _).mono ?_
  rintro e w1 ⟨rfl, rfl⟩
  go_wp2_with fail
  refine (c4.out _).mono ?_
  rintro e w1 ⟨rfl, rfl⟩
  go_wp2_with fail
  refine (lives02 _).mono ?_
  rintro e w1 ⟨rfl, hb1⟩
  replace hb := bl hb hb1
  clear hb1
  go_wp2_with fail
  go_ret
  exact ⟨rfl, hb⟩

set_option maxRecDepth 100000 in
set_option maxHeartbeats 4000000 in
theorem round_ny (s x : ByteArray) (w : World) (hl : (s.size : Int) + (x.size : Int) ≤ 2147483647) (u : ByteArray) (E P : Nat) (hr : ReadsTo x u E P) (hE : ((E : Int) == 0) = false) (S : Ty) (hS : S.ok) (hS64 : S.code.length ≤ 64) (hs : s = str S) :
    Calls Try.prog 8 #[.string s, .string x] w fun e w' => e = .returned (.bool true) ∧ Below w.heap.size w w' := by
  have c1 : ∀ W, Calls Try.prog 34 #[.string (str S)] W fun e w' => e = .returned (.tuple #[.int .i64 0, .int .i64 0]) ∧ W = w' := fun W => by
    have := check_any (str S) W (by simp [str]; omega)
    rw [show (str S).data.toList = S.code by rw [str, bs_list], check_code hS hS64] at this
    exact this
  have c2 : WordsTo (str S) (bs (wordsT S)) := fun W => Words_yes S W hS hS64
  have c3 := reads_words S hS hS64
  have c4 := fun W => Parts_yes S W hS hS64
  have c5 := fun W => Head_yes S W hS hS64
  have c6 := fun (v : Value) (base : Nat) (W : World) ho => Make_yes S v base W hS hS64 ho
  have c7 := fun W => Height_any 64 S W hS64 hS hS64
  have c8 := fun W => Static_any (str S) W (by simp [str]; omega)
  rw [isB_str hS hS64, show (str S).data.toList = S.code by rw [str, bs_list], Bool.true_and] at c8
  have c9 : ∀ i : Nat, i < s.size → ∀ W, Calls Try.prog 34 #[.string (s.extract 0 i)] W fun e w' => e = .returned (.tuple #[.int .i64 20, .int .i64 i]) ∧ W = w' := fun i hi W => by
    rw [hs] at hi ⊢
    rw [str, bs_size] at hi
    have := check_any ((str S).extract 0 i) W (by simp [str]; omega)
    rw [extract_bs, bs_list, List.drop_zero, Nat.sub_zero, show (str S).data.toList = S.code by rw [str, bs_list], check_prefix hS hS64 i hi] at this
    rw [extract_bs, List.drop_zero, Nat.sub_zero, show (str S).data.toList = S.code by rw [str, bs_list]]
    exact this
  have c10 : ∀ k ∈ S.kids, (∀ W, Calls Try.prog 34 #[.string (str k)] W fun e w' => e = .returned (.tuple #[.int .i64 0, .int .i64 0]) ∧ W = w') ∧ (∀ W, Calls Try.prog 28 #[.string (str k)] W fun e w' => e = .returned (.int .i64 k.high) ∧ Below W.heap.size W w') ∧ k.high < S.high ∧
      (∀ W, Calls Try.prog 29 #[.string (str k)] W fun e w' => e = .returned (.bool (!k.code.contains 63)) ∧ Below W.heap.size W w') ∧ (S.code.contains 63 = false → k.code.contains 63 = false) := fun k hk => by
    have h1 := Ty.kid_code hk
    have h2 := Ty.kids_ok hS hk
    refine ⟨fun W => ?_, fun W => Height_any 64 k W (by omega) h2 (by omega), kid_high hk, fun W => ?_, kid_static hk⟩
    · have := check_any (str k) W (by simp [str]; omega)
      rw [show (str k).data.toList = k.code by rw [str, bs_list], check_code h2 (by omega)] at this
      exact this
    · have := Static_any (str k) W (by simp [str]; omega)
      rw [isB_str h2 (by omega), show (str k).data.toList = k.code by rw [str, bs_list], Bool.true_and] at this
      exact this
  unfold ReadsTo at c3
  unfold WordsTo at c2
  unfold PartsR at c4
  generalize bs (wordsT S) = z at c2 c3
  have hK2 := Ty.kids_le S
  have hh64 : S.high ≤ 64 := Nat.le_trans (high_le S) hS64
  rw [← hs] at c1 c2 c3 c4 c5 c6 c7 c8
  generalize S.head = hd at c5 c6
  generalize S.kids = K at c4 c6 c10 hK2
  generalize S.high = H at c7 c10 hh64
  generalize S.code.contains 63 = sq at c8 c10
  have C1 := Lib.hid c1
  have C2 := Lib.hid c2
  have C3 := Lib.hid c3
  have C4 := Lib.hid c4
  have C5 := Lib.hid c5
  have C6 := Lib.hid c6
  have C7 := Lib.hid c7
  have C8 := Lib.hid c8
  have C9 := Lib.hid c9
  have C10 := Lib.hid c10
  clear c1 c2 c3 c4 c5 c6 c7 c8 c9 c10 hS hS64 hs
  unfold ReadsTo at hr
  have m1 := Lib.hid hr
  clear hr
  go_enter Try.func8, Try.ntmps8
  go_wp2_with (go_at_call 16; go_in)
  refine (m1.out _).mono ?_
  rintro e w1 ⟨rfl, hb⟩
  go_wp2_with fail
  refine (C1.out _).mono ?_
  rintro e w1 ⟨rfl, rfl⟩
  go_wp2_with fail
  refine (C2.out _).mono ?_
  rintro e w1 ⟨rfl, hb1⟩
  replace hb := bl hb hb1
  clear hb1
  go_wp2_with fail
  refine (C3.out _).mono ?_
  rintro e w1 ⟨rfl, hb1⟩
  replace hb := bl hb hb1
  clear hb1
  go_wp2_with fail
  refine (C4.out _).mono ?_
  rintro e w1 ⟨v, rfl, ho, hb1⟩
  obtain ⟨A, c, rfl, _, _⟩ := own_shape ho
  replace hb := bl hb hb1
  clear hb1
  go_wp2_with fail
  refine (C5.out _).mono ?_
  rintro e w1 ⟨rfl, rfl⟩
  go_wp2_with fail
  refine (C6.out _ _ _ ho).mono ?_
  rintro e w2 ⟨rfl, hb1⟩
  replace ho := own_below ho hb1
  replace hb := bl hb hb1
  clear hb1
  go_wp2_with fail
  obtain ⟨base, hbase⟩ : ∃ b, b = b ∧ w2.ownsRow b 9 1 (.slice A K.length c) K.length (K.map strV) := ⟨_, rfl, ho⟩
  replace ho := hbase.2
  clear hbase
  go_loopg [23] K.length (fun g i wr => ∃ j : Nat, j ≤ K.length ∧ g = K.length - j ∧ i = .int .i64 j ∧ wr.ownsRow base 9 1 (.slice A K.length c) K.length (K.map strV) ∧ Below w.heap.size w wr)
  case atStart => exact ⟨0, by omega, rfl, rfl, ho, hb⟩
  case round =>
    obtain ⟨j, hj, rfl, rfl, ho, hb⟩ := hrel
    by_cases hlt : j < K.length
    · obtain ⟨k, hk⟩ : ∃ k, K[j]? = some k := ⟨_, List.getElem?_eq_getElem hlt⟩
      obtain ⟨g, rfl, hg1, hg2, hcell⟩ := own_cell ho hlt
      have hc1 := hcell (.string (str k)) (by rw [List.getElem?_map, hk]; rfl)
      obtain ⟨k1, k2, k3, k4, k5⟩ := C10.out k (List.mem_of_getElem? hk)
      generalize str k = p at hc1 k1 k2 k4
      generalize k.code.contains 63 = kq at k4 k5
      generalize k.high = kh at k2 k3
      have HC : Hid (∀ W, Below wr.heap.size wr W → W.cell? ⟨g, j, none⟩ = some (.string p)) := Lib.hid fun W hW => (hW.cell (World.block_lt_of_cell? _ _ hc1)).trans hc1
      have K1 := Lib.hid k1
      have K2 := Lib.hid k2
      have K4 := Lib.hid k4
      have K5 := Lib.hid k5
      clear k1 k2 k4 k5 hcell hk C1 C2 C3 C4 C5 C6 C9 C10 m1
      go_wp2_with fail
      refine (K1.out _).mono ?_
      rintro e w3 ⟨rfl, rfl⟩
      go_wp2_with fail
      refine (K2.out _).mono ?_
      rintro e w4 ⟨rfl, b4⟩
      have d4 := HC.out _ b4
      go_wp2_with fail
      refine (C7.out _).mono ?_
      rintro e w5 ⟨rfl, b5'⟩
      have b5 := bl b4 b5'
      have d5 := HC.out _ b5
      clear b5'
      go_wp2_with fail
      cases sq
      · have C8' : ∀ W, Calls Try.prog 29 #[.string s] W fun e w' => e = .returned (.bool true) ∧ Below W.heap.size W w' := C8.out
        have hkq := K5.out rfl
        subst hkq
        have K4' : ∀ W, Calls Try.prog 29 #[.string p] W fun e w' => e = .returned (.bool true) ∧ Below W.heap.size W w' := K4.out
        have C8 := Lib.hid C8'
        have K4 := Lib.hid K4'
        clear C8' K4'
        refine (C8.out _).mono ?_
        rintro e w6 ⟨rfl, b6'⟩
        have b6 := bl b5 b6'
        have d6 := HC.out _ b6
        clear b6'
        go_wp2_with fail
        refine (K4.out _).mono ?_
        rintro e w7 ⟨rfl, b7'⟩
        have b7 := bl b6 b7'
        clear b7'
        go_wp2_with fail
        go_roundg (K.length - (j + 1))
        case measure => omega
        case rel => exact ⟨j + 1, by omega, rfl, by go_num, own_below ho b7, bl hb b7⟩
      · have C8' : ∀ W, Calls Try.prog 29 #[.string s] W fun e w' => e = .returned (.bool false) ∧ Below W.heap.size W w' := C8.out
        have C8 := Lib.hid C8'
        clear C8'
        refine (C8.out _).mono ?_
        rintro e w6 ⟨rfl, b6'⟩
        have b6 := bl b5 b6'
        clear b6'
        go_wp2_with fail
        go_roundg (K.length - (j + 1))
        case measure => omega
        case rel => exact ⟨j + 1, by omega, rfl, by go_num, own_below ho b6, bl hb b6⟩
    · obtain rfl : j = K.length := by omega
      clear C1 C2 C3 C4 C5 C6 C7 C8 C10 m1
      go_wp2_with fail
      go_loopg [26] s.size (fun g i wr2 => ∃ j : Nat, j ≤ s.size ∧ g = s.size - j ∧ i = .int .i64 j ∧ wr2 = wr)
      case atStart => exact ⟨0, by omega, rfl, rfl, rfl⟩
      case round =>
        obtain ⟨j, hj, rfl, rfl, rfl⟩ := hrel
        by_cases hlt2 : j < s.size
        · have hcall := Lib.hid (C9.out j hlt2)
          go_wp2_with fail
          refine (hcall.out _).mono ?_
          rintro e w3 ⟨rfl, rfl⟩
          go_wp2_with fail
          go_roundg (s.size - (j + 1))
          case measure => omega
          case rel => exact ⟨j + 1, by omega, rfl, by go_num, rfl⟩
        · obtain rfl : j = s.size := by omega
          go_wp2_with fail
          refine (lives02 _).mono ?_
          rintro e w3 ⟨rfl, hb3⟩
          go_wp2_with fail
          go_ret
          exact ⟨rfl, bl hb hb3⟩

set_option maxRecDepth 100000 in
set_option maxHeartbeats 4000000 in
theorem round_yn (s x : ByteArray) (w : World) (hl : (s.size : Int) + (x.size : Int) ≤ 2147483647) (T : Ty) (P : Nat) (hT : T.ok) (hT64 : T.code.length ≤ 64) (hr : ReadsTo x (str T) 0 P) (hs : isB s = false) :
    Calls Try.prog 8 #[.string s, .string x] w fun e w' => e = .returned (.bool true) ∧ Below w.heap.size w w' := by
  have c1 := Lib.hid fun W => check_any s W (by omega)
  have t1 : (((checkL s.data.toList).1 : Int) != 0) = true := by unfold isB at hs; simpa using hs
  obtain ⟨C, hC⟩ : ∃ C, checkL s.data.toList = C := ⟨_, rfl⟩
  rw [hC] at c1 t1
  obtain ⟨C1, C2⟩ := C
  simp only at c1 t1
  have c2 := Lib.hid fun W => Head_no s W (by omega) hs
  have c3 := Lib.hid fun W => Parts_no s W (by omega) hs
  have c4 := Lib.hid fun W => Height_no s W (by omega) hs
  clear hs hC
  have m2 : WordsTo (str T) (bs (wordsT T)) := fun W => Words_yes T W hT hT64
  have m3 := reads_words T hT hT64
  unfold ReadsTo at hr m3
  unfold WordsTo at m2
  generalize bs (wordsT T) = y at m2 m3
  generalize str T = u at hr m2 m3
  have m1 := Lib.hid hr
  have M2 := Lib.hid m2
  have M3 := Lib.hid m3
  clear hr m2 m3 hT hT64
  go_enter Try.func8, Try.ntmps8
  go_wp2_with (go_at_call 16; go_in)
  refine (m1.out _).mono ?_
  rintro e w1 ⟨rfl, hb⟩
  go_wp2_with fail
  refine (M2.out _).mono ?_
  rintro e w1 ⟨rfl, hb1⟩
  replace hb := bl hb hb1
  clear hb1
  go_wp2_with fail
  refine (M3.out _).mono ?_
  rintro e w1 ⟨rfl, hb1⟩
  replace hb := bl hb hb1
  clear hb1
  go_wp2_with fail
  refine (c1.out _).mono ?_
  rintro e w1 ⟨rfl, rfl⟩
  go_wp2_with fail
  refine (c2.out _).mono ?_
  rintro e w1 ⟨rfl, rfl⟩
  go_wp2_with fail
  refine (c3.out _).mono ?_
  rintro e w1 ⟨rfl, rfl⟩
  go_wp2_with fail
  refine (c4.out _).mono ?_
  rintro e w1 ⟨rfl, rfl⟩
  go_wp2_with fail
  refine (lives02 _).mono ?_
  rintro e w1 ⟨rfl, hb1⟩
  replace hb := bl hb hb1
  clear hb1
  go_wp2_with fail
  go_ret
  exact ⟨rfl, hb⟩

set_option maxRecDepth 100000 in
set_option maxHeartbeats 4000000 in
theorem round_yy (s x : ByteArray) (w : World) (hl : (s.size : Int) + (x.size : Int) ≤ 2147483647) (T : Ty) (P : Nat) (hT : T.ok) (hT64 : T.code.length ≤ 64) (hr : ReadsTo x (str T) 0 P) (S : Ty) (hS : S.ok) (hS64 : S.code.length ≤ 64) (hs : s = str S) :
    Calls Try.prog 8 #[.string s, .string x] w fun e w' => e = .returned (.bool true) ∧ Below w.heap.size w w' := by
  have c1 : ∀ W, Calls Try.prog 34 #[.string (str S)] W fun e w' => e = .returned (.tuple #[.int .i64 0, .int .i64 0]) ∧ W = w' := fun W => by
    have := check_any (str S) W (by simp [str]; omega)
    rw [show (str S).data.toList = S.code by rw [str, bs_list], check_code hS hS64] at this
    exact this
  have c2 : WordsTo (str S) (bs (wordsT S)) := fun W => Words_yes S W hS hS64
  have c3 := reads_words S hS hS64
  have c4 := fun W => Parts_yes S W hS hS64
  have c5 := fun W => Head_yes S W hS hS64
  have c6 := fun (v : Value) (base : Nat) (W : World) ho => Make_yes S v base W hS hS64 ho
  have c7 := fun W => Height_any 64 S W hS64 hS hS64
  have c8 := fun W => Static_any (str S) W (by simp [str]; omega)
  rw [isB_str hS hS64, show (str S).data.toList = S.code by rw [str, bs_list], Bool.true_and] at c8
  have c9 : ∀ i : Nat, i < s.size → ∀ W, Calls Try.prog 34 #[.string (s.extract 0 i)] W fun e w' => e = .returned (.tuple #[.int .i64 20, .int .i64 i]) ∧ W = w' := fun i hi W => by
    rw [hs] at hi ⊢
    rw [str, bs_size] at hi
    have := check_any ((str S).extract 0 i) W (by simp [str]; omega)
    rw [extract_bs, bs_list, List.drop_zero, Nat.sub_zero, show (str S).data.toList = S.code by rw [str, bs_list], check_prefix hS hS64 i hi] at this
    rw [extract_bs, List.drop_zero, Nat.sub_zero, show (str S).data.toList = S.code by rw [str, bs_list]]
    exact this
  have c10 : ∀ k ∈ S.kids, (∀ W, Calls Try.prog 34 #[.string (str k)] W fun e w' => e = .returned (.tuple #[.int .i64 0, .int .i64 0]) ∧ W = w') ∧ (∀ W, Calls Try.prog 28 #[.string (str k)] W fun e w' => e = .returned (.int .i64 k.high) ∧ Below W.heap.size W w') ∧ k.high < S.high ∧
      (∀ W, Calls Try.prog 29 #[.string (str k)] W fun e w' => e = .returned (.bool (!k.code.contains 63)) ∧ Below W.heap.size W w') ∧ (S.code.contains 63 = false → k.code.contains 63 = false) := fun k hk => by
    have h1 := Ty.kid_code hk
    have h2 := Ty.kids_ok hS hk
    refine ⟨fun W => ?_, fun W => Height_any 64 k W (by omega) h2 (by omega), kid_high hk, fun W => ?_, kid_static hk⟩
    · have := check_any (str k) W (by simp [str]; omega)
      rw [show (str k).data.toList = k.code by rw [str, bs_list], check_code h2 (by omega)] at this
      exact this
    · have := Static_any (str k) W (by simp [str]; omega)
      rw [isB_str h2 (by omega), show (str k).data.toList = k.code by rw [str, bs_list], Bool.true_and] at this
      exact this
  unfold ReadsTo at c3
  unfold WordsTo at c2
  unfold PartsR at c4
  generalize bs (wordsT S) = z at c2 c3
  have hK2 := Ty.kids_le S
  have hh64 : S.high ≤ 64 := Nat.le_trans (high_le S) hS64
  rw [← hs] at c1 c2 c3 c4 c5 c6 c7 c8
  generalize S.head = hd at c5 c6
  generalize S.kids = K at c4 c6 c10 hK2
  generalize S.high = H at c7 c10 hh64
  generalize S.code.contains 63 = sq at c8 c10
  have C1 := Lib.hid c1
  have C2 := Lib.hid c2
  have C3 := Lib.hid c3
  have C4 := Lib.hid c4
  have C5 := Lib.hid c5
  have C6 := Lib.hid c6
  have C7 := Lib.hid c7
  have C8 := Lib.hid c8
  have C9 := Lib.hid c9
  have C10 := Lib.hid c10
  clear c1 c2 c3 c4 c5 c6 c7 c8 c9 c10 hS hS64 hs
  have m2 : WordsTo (str T) (bs (wordsT T)) := fun W => Words_yes T W hT hT64
  have m3 := reads_words T hT hT64
  unfold ReadsTo at hr m3
  unfold WordsTo at m2
  generalize bs (wordsT T) = y at m2 m3
  generalize str T = u at hr m2 m3
  have m1 := Lib.hid hr
  have M2 := Lib.hid m2
  have M3 := Lib.hid m3
  clear hr m2 m3 hT hT64
  go_enter Try.func8, Try.ntmps8
  go_wp2_with (go_at_call 16; go_in)
  refine (m1.out _).mono ?_
  rintro e w1 ⟨rfl, hb⟩
  go_wp2_with fail
  refine (M2.out _).mono ?_
  rintro e w1 ⟨rfl, hb1⟩
  replace hb := bl hb hb1
  clear hb1
  go_wp2_with fail
  refine (M3.out _).mono ?_
  rintro e w1 ⟨rfl, hb1⟩
  replace hb := bl hb hb1
  clear hb1
  go_wp2_with fail
  refine (C1.out _).mono ?_
  rintro e w1 ⟨rfl, rfl⟩
  go_wp2_with fail
  refine (C2.out _).mono ?_
  rintro e w1 ⟨rfl, hb1⟩
  replace hb := bl hb hb1
  clear hb1
  go_wp2_with fail
  refine (C3.out _).mono ?_
  rintro e w1 ⟨rfl, hb1⟩
  replace hb := bl hb hb1
  clear hb1
  go_wp2_with fail
  refine (C4.out _).mono ?_
  rintro e w1 ⟨v, rfl, ho, hb1⟩
  obtain ⟨A, c, rfl, _, _⟩ := own_shape ho
  replace hb := bl hb hb1
  clear hb1
  go_wp2_with fail
  refine (C5.out _).mono ?_
  rintro e w1 ⟨rfl, rfl⟩
  go_wp2_with fail
  refine (C6.out _ _ _ ho).mono ?_
  rintro e w2 ⟨rfl, hb1⟩
  replace ho := own_below ho hb1
  replace hb := bl hb hb1
  clear hb1
  go_wp2_with fail
  obtain ⟨base, hbase⟩ : ∃ b, b = b ∧ w2.ownsRow b 9 1 (.slice A K.length c) K.length (K.map strV) := ⟨_, rfl, ho⟩
  replace ho := hbase.2
  clear hbase
  go_loopg [23] K.length (fun g i wr => ∃ j : Nat, j ≤ K.length ∧ g = K.length - j ∧ i = .int .i64 j ∧ wr.ownsRow base 9 1 (.slice A K.length c) K.length (K.map strV) ∧ Below w.heap.size w wr)
  case atStart => exact ⟨0, by omega, rfl, rfl, ho, hb⟩
  case round =>
    obtain ⟨j, hj, rfl, rfl, ho, hb⟩ := hrel
    by_cases hlt : j < K.length
    · obtain ⟨k, hk⟩ : ∃ k, K[j]? = some k := ⟨_, List.getElem?_eq_getElem hlt⟩
      obtain ⟨g, rfl, hg1, hg2, hcell⟩ := own_cell ho hlt
      have hc1 := hcell (.string (str k)) (by rw [List.getElem?_map, hk]; rfl)
      obtain ⟨k1, k2, k3, k4, k5⟩ := C10.out k (List.mem_of_getElem? hk)
      generalize str k = p at hc1 k1 k2 k4
      generalize k.code.contains 63 = kq at k4 k5
      generalize k.high = kh at k2 k3
      have HC : Hid (∀ W, Below wr.heap.size wr W → W.cell? ⟨g, j, none⟩ = some (.string p)) := Lib.hid fun W hW => (hW.cell (World.block_lt_of_cell? _ _ hc1)).trans hc1
      have K1 := Lib.hid k1
      have K2 := Lib.hid k2
      have K4 := Lib.hid k4
      have K5 := Lib.hid k5
      clear k1 k2 k4 k5 hcell hk C1 C2 C3 C4 C5 C6 C9 C10 m1
      go_wp2_with fail
      refine (K1.out _).mono ?_
      rintro e w3 ⟨rfl, rfl⟩
      go_wp2_with fail
      refine (K2.out _).mono ?_
      rintro e w4 ⟨rfl, b4⟩
      have d4 := HC.out _ b4
      go_wp2_with fail
      refine (C7.out _).mono ?_
      rintro e w5 ⟨rfl, b5'⟩
      have b5 := bl b4 b5'
      have d5 := HC.out _ b5
      clear b5'
      go_wp2_with fail
      cases sq
      · have C8' : ∀ W, Calls Try.prog 29 #[.string s] W fun e w' => e = .returned (.bool true) ∧ Below W.heap.size W w' := C8.out
        have hkq := K5.out rfl
        subst hkq
        have K4' : ∀ W, Calls Try.prog 29 #[.string p] W fun e w' => e = .returned (.bool true) ∧ Below W.heap.size W w' := K4.out
        have C8 := Lib.hid C8'
        have K4 := Lib.hid K4'
        clear C8' K4'
        refine (C8.out _).mono ?_
        rintro e w6 ⟨rfl, b6'⟩
        have b6 := bl b5 b6'
        have d6 := HC.out _ b6
        clear b6'
        go_wp2_with fail
        refine (K4.out _).mono ?_
        rintro e w7 ⟨rfl, b7'⟩
        have b7 := bl b6 b7'
        clear b7'
        go_wp2_with fail
        go_roundg (K.length - (j + 1))
        case measure => omega
        case rel => exact ⟨j + 1, by omega, rfl, by go_num, own_below ho b7, bl hb b7⟩
      · have C8' : ∀ W, Calls Try.prog 29 #[.string s] W fun e w' => e = .returned (.bool false) ∧ Below W.heap.size W w' := C8.out
        have C8 := Lib.hid C8'
        clear C8'
        refine (C8.out _).mono ?_
        rintro e w6 ⟨rfl, b6'⟩
        have b6 := bl b5 b6'
        clear b6'
        go_wp2_with fail
        go_roundg (K.length - (j + 1))
        case measure => omega
        case rel => exact ⟨j + 1, by omega, rfl, by go_num, own_below ho b6, bl hb b6⟩
    · obtain rfl : j = K.length := by omega
      clear C1 C2 C3 C4 C5 C6 C7 C8 C10 m1
      go_wp2_with fail
      go_loopg [26] s.size (fun g i wr2 => ∃ j : Nat, j ≤ s.size ∧ g = s.size - j ∧ i = .int .i64 j ∧ wr2 = wr)
      case atStart => exact ⟨0, by omega, rfl, rfl, rfl⟩
      case round =>
        obtain ⟨j, hj, rfl, rfl, rfl⟩ := hrel
        by_cases hlt2 : j < s.size
        · have hcall := Lib.hid (C9.out j hlt2)
          go_wp2_with fail
          refine (hcall.out _).mono ?_
          rintro e w3 ⟨rfl, rfl⟩
          go_wp2_with fail
          go_roundg (s.size - (j + 1))
          case measure => omega
          case rel => exact ⟨j + 1, by omega, rfl, by go_num, rfl⟩
        · obtain rfl : j = s.size := by omega
          go_wp2_with fail
          refine (lives02 _).mono ?_
          rintro e w3 ⟨rfl, hb3⟩
          go_wp2_with fail
          go_ret
          exact ⟨rfl, bl hb hb3⟩
end Go.Proofs.Ythonnpjlkcjoeaa.T
