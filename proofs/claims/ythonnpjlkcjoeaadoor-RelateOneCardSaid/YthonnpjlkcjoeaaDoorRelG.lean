/- Contracts: refused, both; Meet, Join of the program and of its answer. -/
import Derived.Test.YthonnpjlkcjoeaaDoorRelE
namespace Go.Proofs.YthonnpjlkcjoeaaDoor.T
open Go.RowKit Go.Proofs.YthonnpjlkcjoeaaDoor.B
set_option linter.unusedSimpArgs false
set_option linter.unusedVariables false

/-- The first of two that is no type: its error. -/
def err2 (s t : ByteArray) : Nat := if (checkL s.data.toList).1 = 0 then (checkL t.data.toList).1 else (checkL s.data.toList).1

def errV (n : Nat) : Value := .int .i64 n

set_option maxRecDepth 100000 in
theorem refused_any (s t : ByteArray) (b c : Nat) (w : World) (hs : s.size ≤ 4611686018427387904) (ht : t.size ≤ 4611686018427387904) (hb : b < w.heap.size)
    (c0 : w.cell? ⟨b, 0, none⟩ = some (.string s)) (c1 : w.cell? ⟨b, 1, none⟩ = some (.string t)) :
    Calls Tryd.prog 94 #[.slice (some ⟨b, 0, none⟩) 2 c] w fun e w' => e = .returned (.int .i64 (err2 s t)) ∧ w = w' := by
  have h1 := fun W => check_any s W hs
  have h2 := fun W => check_any t W ht
  obtain ⟨n, hn⟩ : ∃ n, err2 s t = n := ⟨_, rfl⟩
  rw [hn]
  unfold err2 at hn
  generalize checkL s.data.toList = a at *
  generalize checkL t.data.toList = b at *
  obtain ⟨a1, a2⟩ := a
  obtain ⟨b1, b2⟩ := b
  simp only at h1 h2 hn
  have HN := Lib.hid hn
  clear hn
  go_enter Tryd.func94, Tryd.ntmps94
  go_wp2_with fail
  go_loopg [4, 9] 2 (fun g _ i wr => ∃ j : Nat, j ≤ 2 ∧ g = 2 - j ∧ i = .int .i64 j ∧ w = wr ∧ Hid (0 < j → a1 = 0) ∧ Hid (1 < j → b1 = 0))
  case atStart => exact ⟨0, by omega, rfl, rfl, rfl, fun h => by omega, fun h => by omega⟩
  case round =>
    obtain ⟨j, hj, rfl, rfl, rfl, g1, g2⟩ := hrel
    have hj3 : j = 0 ∨ j = 1 ∨ j = 2 := by omega
    rcases hj3 with rfl | rfl | rfl
    · by_cases h0 : a1 = 0
      · have hne : ((a1 : Int) != 0) = false := by simpa using h0
        have H0 := Lib.hid h0
        clear h0
        go_wp2_with fail
        refine (h1 _).mono ?_
        rintro e w' ⟨rfl, rfl⟩
        go_wp2_with fail
        go_roundg 1
        case measure => omega
        case rel => exact ⟨1, by omega, rfl, rfl, rfl, fun _ => H0.out, fun h => by omega⟩
      · have hne : ((a1 : Int) != 0) = true := by simpa using h0
        have H0 := Lib.hid h0
        clear h0
        go_wp2_with fail
        refine (h1 _).mono ?_
        rintro e w' ⟨rfl, rfl⟩
        go_wp2_with fail
        go_ret
        exact ⟨by rw [← HN.out, if_neg H0.out]; rfl, rfl⟩
    · by_cases h0 : b1 = 0
      · have hne : ((b1 : Int) != 0) = false := by simpa using h0
        have H0 := Lib.hid h0
        clear h0
        go_wp2_with fail
        refine (h2 _).mono ?_
        rintro e w' ⟨rfl, rfl⟩
        go_wp2_with fail
        go_roundg 0
        case measure => omega
        case rel => exact ⟨2, by omega, rfl, rfl, rfl, fun _ => g1.out (by omega), fun h => H0.out⟩
      · have hne : ((b1 : Int) != 0) = true := by simpa using h0
        clear h0
        go_wp2_with fail
        refine (h2 _).mono ?_
        rintro e w' ⟨rfl, rfl⟩
        go_wp2_with fail
        go_ret
        exact ⟨by rw [← HN.out, if_pos (g1.out (by omega))]; rfl, rfl⟩
    · go_wp2_with fail
      go_ret
      exact ⟨by rw [← HN.out, if_pos (g1.out (by omega)), g2.out (by omega)]; rfl, rfl⟩

/-- Meet, as the program and its answer tell it of two types. -/
def meetS (S T : Ty) : ByteArray := if allT askC S T = true then (if 64 < (meetT S T).code.length then ⟨#[]⟩ else str (meetT S T)) else ⟨#[]⟩
def meetE (S T : Ty) : Int := if allT askC S T = true then (if 64 < (meetT S T).code.length then 21 else 0) else 30

theorem err2_ok {S T : Ty} (hS : S.ok) (hT : T.ok) (hS64 : S.code.length ≤ 64) (hT64 : T.code.length ≤ 64) : err2 (str S) (str T) = 0 := by
  unfold err2; rw [str, bs_list, check_code hS hS64, str, bs_list, check_code hT hT64]; rfl

theorem Meet_no (s t : ByteArray) (w : World) (hs : s.size ≤ 4611686018427387904) (ht : t.size ≤ 4611686018427387904) (h : err2 s t ≠ 0) :
    Calls Tryd.prog 75 #[.string s, .string t] w fun e w' => e = .returned (.tuple #[.string ⟨#[]⟩, .int .i64 (err2 s t)]) ∧ Below w.heap.size w w' := by
  have hr := refused_any s t w.heap.size 2 (w.alloc (.cells #[.string s, .string t] 9)) hs ht (by simp) (by simp) (by simp)
  have hne : ((err2 s t : Int) != 0) = true := by simpa using h
  generalize err2 s t = n at *
  clear h
  go_enter Tryd.func75, Tryd.ntmps75
  go_wp2_with (go_at_call 94; refine hr.mono ?_; rintro e w' ⟨rfl, rfl⟩)
  go_ret2
  exact ⟨rfl, bal b0 _⟩

theorem Join_no (s t : ByteArray) (w : World) (hs : s.size ≤ 4611686018427387904) (ht : t.size ≤ 4611686018427387904) (h : err2 s t ≠ 0) :
    Calls Tryd.prog 76 #[.string s, .string t] w fun e w' => e = .returned (.tuple #[.string ⟨#[]⟩, .int .i64 (err2 s t)]) ∧ Below w.heap.size w w' := by
  have hr := refused_any s t w.heap.size 2 (w.alloc (.cells #[.string s, .string t] 9)) hs ht (by simp) (by simp) (by simp)
  have hne : ((err2 s t : Int) != 0) = true := by simpa using h
  generalize err2 s t = n at *
  clear h
  go_enter Tryd.func76, Tryd.ntmps76
  go_wp2_with (go_at_call 94; refine hr.mono ?_; rintro e w' ⟨rfl, rfl⟩)
  go_ret2
  exact ⟨rfl, bal b0 _⟩

theorem Meet_yes (S T : Ty) (w : World) (hS : S.ok) (hT : T.ok) (hS64 : S.code.length ≤ 64) (hT64 : T.code.length ≤ 64) :
    Calls Tryd.prog 75 #[.string (str S), .string (str T)] w fun e w' => e = .returned (.tuple #[.string (meetS S T), .int .i64 (meetE S T)]) ∧ Below w.heap.size w w' := by
  have hs : (str S).size ≤ 4611686018427387904 := by simp only [str, bs_size]; omega
  have ht : (str T).size ≤ 4611686018427387904 := by simp only [str, bs_size]; omega
  have hr := refused_any (str S) (str T) w.heap.size 2 (w.alloc (.cells #[.string (str S), .string (str T)] 9)) hs ht (by simp) (by simp) (by simp)
  rw [err2_ok hS hT hS64 hT64] at hr
  have hc := fun W => Cons_yes S T W hS hT hS64 hT64
  have hm := fun W h => meet_any 64 S T W hS64 hS hT hS64 hT64 h
  unfold meetS meetE
  have hz : (str (meetT S T)).size = (meetT S T).code.length := by simp only [str, bs_size]
  obtain ⟨n, hn⟩ : ∃ n, (meetT S T).code.length = n := ⟨_, rfl⟩
  have hn2 : n ≤ 128 := by have := meet_len S T; omega
  rw [hn] at hz ⊢
  generalize allT askC S T = r at *
  generalize str (meetT S T) = m at *
  generalize str S = s at *
  generalize str T = t at *
  clear hn hS hT hS64 hT64
  cases r
  · clear hm hz
    rw [if_neg (by simp), if_neg (by simp)]
    go_enter Tryd.func75, Tryd.ntmps75
    go_wp2_with (first
      | (go_at_call 94; refine hr.mono ?_; rintro e w' ⟨rfl, rfl⟩)
      | (go_at_call 77; refine (hc _).mono ?_; rintro e w1 ⟨rfl, hb⟩))
    go_ret2
    exact ⟨rfl, bl (bal b0 _) hb⟩
  · rw [if_pos rfl, if_pos rfl]
    have hm' := fun W => hm W rfl
    clear hm
    by_cases hl : 64 < n
    · rw [if_pos hl, if_pos hl]
      have hl' : 64 < m.size := by omega
      have hm2 : m.size ≤ 128 := by omega
      clear hl hz hn2
      go_enter Tryd.func75, Tryd.ntmps75
      go_wp2_with (first
        | (go_at_call 94; refine hr.mono ?_; rintro e w' ⟨rfl, rfl⟩)
        | (go_at_call 77; refine (hc _).mono ?_; rintro e w1 ⟨rfl, hb⟩)
        | (go_at_call 95; refine (hm' _).mono ?_; rintro e w2 ⟨rfl, hb2⟩))
      go_ret2
      exact ⟨rfl, bl (bl (bal b0 _) hb) hb2⟩
    · rw [if_neg hl, if_neg hl]
      have hl' : m.size ≤ 64 := by omega
      clear hl hz hn2
      go_enter Tryd.func75, Tryd.ntmps75
      go_wp2_with (first
        | (go_at_call 94; refine hr.mono ?_; rintro e w' ⟨rfl, rfl⟩)
        | (go_at_call 77; refine (hc _).mono ?_; rintro e w1 ⟨rfl, hb⟩)
        | (go_at_call 95; refine (hm' _).mono ?_; rintro e w2 ⟨rfl, hb2⟩))
      go_ret2
      exact ⟨rfl, bl (bl (bal b0 _) hb) hb2⟩

theorem Join_yes (S T : Ty) (w : World) (hS : S.ok) (hT : T.ok) (hS64 : S.code.length ≤ 64) (hT64 : T.code.length ≤ 64) :
    Calls Tryd.prog 76 #[.string (str S), .string (str T)] w fun e w' => e = .returned (.tuple #[.string (str (joinT S T)), .int .i64 0]) ∧ Below w.heap.size w w' := by
  have hs : (str S).size ≤ 4611686018427387904 := by simp only [str, bs_size]; omega
  have ht : (str T).size ≤ 4611686018427387904 := by simp only [str, bs_size]; omega
  have hr := refused_any (str S) (str T) w.heap.size 2 (w.alloc (.cells #[.string (str S), .string (str T)] 9)) hs ht (by simp) (by simp) (by simp)
  rw [err2_ok hS hT hS64 hT64] at hr
  have hm := fun W => join_any 64 S T W hS64 hS hT hS64 hT64
  generalize str (joinT S T) = m at *
  generalize str S = s at *
  generalize str T = t at *
  clear hS hT hS64 hT64
  go_enter Tryd.func76, Tryd.ntmps76
  go_wp2_with (first
    | (go_at_call 94; refine hr.mono ?_; rintro e w' ⟨rfl, rfl⟩)
    | (go_at_call 96; refine (hm _).mono ?_; rintro e w2 ⟨rfl, hb⟩))
  go_ret2
  exact ⟨rfl, bl (bal b0 _) hb⟩

end Go.Proofs.YthonnpjlkcjoeaaDoor.T
