/- Contracts: Head and Make at a type's own head and parts. -/
import Derived.Test.YthonnpjlkcjoeaaTypH
import Derived.Test.YthonnpjlkcjoeaaShelf
import Derived.Test.YthonnpjlkcjoeaaRdQ
import Derived.Test.YthonnpjlkcjoeaaRdN
namespace Go.Proofs.Ythonnpjlkcjoeaa.T
open Go.RowKit Go.Proofs.Ythonnpjlkcjoeaa.B
set_option linter.unusedSimpArgs false
set_option linter.unusedVariables false

theorem Head_yes (t : Ty) (w : World) (ht : t.ok) (h64 : t.code.length ≤ 64) :
    Calls Try.prog 35 #[.string (str t)] w fun e w' => e = .returned (.int .u8 t.head.toNat) ∧ w = w' := by
  have hi := is_any (str t) w (by simp [str]; omega)
  rw [isB_str ht h64] at hi
  obtain ⟨c, hc⟩ : ∃ c, t.head = c := ⟨_, rfl⟩
  obtain ⟨hp0, hb0⟩ := str_head t
  rw [hc] at hb0 ⊢
  generalize str t = s at *
  clear ht h64 hc
  go_enter Try.func35, Try.ntmps35
  go_wp2_with fail
  refine hi.mono ?_
  rintro e w' ⟨rfl, rfl⟩
  go_wp2_with fail
  go_ret
  exact ⟨rfl, rfl⟩
theorem Head_no (s : ByteArray) (w : World) (hs : s.size ≤ 4611686018427387904) (h : isB s = false) :
    Calls Try.prog 35 #[.string s] w fun e w' => e = .returned (.int .u8 0) ∧ w = w' := by
  have hi := is_any s w hs
  rw [h] at hi
  clear h hs
  go_enter Try.func35, Try.ntmps35
  go_wp2_with fail
  refine hi.mono ?_
  rintro e w' ⟨rfl, rfl⟩
  go_wp2_with fail
  go_ret
  exact ⟨rfl, rfl⟩

theorem join_none (l : List (List UInt8)) : Lib.join l [] = l.flatten := by
  induction l with
  | nil => rfl
  | cons a r ih =>
    cases r with
    | nil => simp [Lib.join]
    | cons b r => simp only [Lib.join, List.flatten_cons] at ih ⊢; simp [ih]

def JoinR (K : List Ty) (v : Value) (w : World) : Prop := Calls Try.prog 68 #[v, .string ⟨#[]⟩] w fun e w' => e = .returned (.string (bs (K.flatMap Ty.code))) ∧ Below w.heap.size w w'
theorem join_kids (K : List Ty) (base : Nat) (A : Option Addr) (c : Nat) (w : World) (ho : w.ownsRow base 9 1 (.slice A K.length c) K.length (K.map strV)) (hl : (K.flatMap Ty.code).length ≤ 64) (hk : K.length ≤ 2) : JoinR K (.slice A K.length c) w := by
  unfold JoinR
  by_cases h0 : K = []
  · subst h0
    refine (Try.strings_Join_none A c ⟨#[]⟩ w).mono ?_
    rintro e w' ⟨rfl, rfl⟩
    exact ⟨rfl, Below.refl _ _⟩
  · have hp := List.length_pos_iff.2 h0
    obtain ⟨A', c', he, hc, _⟩ := own_shape ho
    injection he with h1 _ h2
    subst h1 h2
    obtain ⟨g, rfl, hg1, hg2, _⟩ := own_cell ho hp
    have hx : ((K.map str).map (·.data.toList)).flatten = K.flatMap Ty.code := by
      rw [List.map_map, List.flatMap]
      congr 1
    have := Try.strings_Join g 0 c (K.map str) ⟨#[]⟩ w (fun j x hx => by
      have hj : j < K.length := by
        have := (List.getElem?_eq_some_iff.1 hx).1
        simpa using this
      obtain ⟨g', e, _, _, hcell⟩ := own_cell ho hj
      injection e with e; injection e with e _ _
      subst e
      rw [Nat.zero_add]
      refine hcell _ ?_
      rw [List.getElem?_map] at hx ⊢
      cases hk : K[j]? with
      | none => rw [hk] at hx; cases hx
      | some k => rw [hk] at hx; injection hx with hx; subst hx; rfl) hg2 (by simp; omega) (by simpa using hc) (by
        show (Lib.join _ []).length ≤ _
        rw [join_none, hx]; omega)
    rw [show (⟨#[]⟩ : ByteArray).data.toList = [] from rfl, join_none, hx, List.length_map] at this
    exact this

theorem ar_of (t : Ty) (ht : t.ok) : ar (t.head.toNat : Int) = t.kids.length := Ty.ar_head ht
theorem enc_head (t : Ty) (ht : t.ok) : Utf8.encode (t.head.toNat : Int) = bs [t.head] := by
  cases t with
  | leaf h => rcases leaf_cases ht with rfl | rfl | rfl | rfl <;> decide
  | un h a =>
    rcases un_cases ht with rfl | rfl
    · exact (by decide : Utf8.encode (((108 : UInt8).toNat : Nat) : Int) = bs [108])
    · exact (by decide : Utf8.encode (((120 : UInt8).toNat : Nat) : Int) = bs [120])
  | bin h a b =>
    rcases bin_cases ht with rfl | rfl
    · exact (by decide : Utf8.encode (((62 : UInt8).toNat : Nat) : Int) = bs [62])
    · exact (by decide : Utf8.encode (((44 : UInt8).toNat : Nat) : Int) = bs [44])

set_option maxRecDepth 100000 in
theorem Make_yes (t : Ty) (v : Value) (base : Nat) (w : World) (ht : t.ok) (h64 : t.code.length ≤ 64) (ho : w.ownsRow base 9 1 v t.kids.length (t.kids.map strV)) :
    Calls Try.prog 37 #[.int .u8 t.head.toNat, v] w fun e w' => e = .returned (.tuple #[.string (str t), .int .i64 0]) ∧ Below w.heap.size w w' := by
  obtain ⟨A, c, rfl, _, _⟩ := own_shape ho
  have har := fun W => arity_any (t.head.toNat : Int) W
  rw [ar_of t ht] at har
  have hkl : (t.kids.flatMap Ty.code).length + 1 ≤ 64 := by rw [Ty.code_eq] at h64; simpa using h64
  have hJ := join_kids t.kids base A c w ho (by omega) (Ty.kids_le t)
  unfold JoinR at hJ
  have hck : ∀ k ∈ t.kids, ∀ W, Calls Try.prog 34 #[.string (str k)] W fun e w' => e = .returned (.tuple #[.int .i64 0, .int .i64 0]) ∧ W = w' := fun k hk W => by
    have h1 := Ty.kid_code hk
    have := check_any (str k) W (by simp [str]; omega)
    rw [show (str k).data.toList = k.code by rw [str, bs_list], check_code (Ty.kids_ok ht hk) (by omega)] at this
    exact this
  have hen := enc_head t ht
  have hK2 := Ty.kids_le t
  have hsum : bs [t.head] ++ bs (t.kids.flatMap Ty.code) = str t := by rw [bs_app, str, Ty.code_eq t]; rfl
  have hx1 : (bs [t.head]).size ≤ 64 := by rw [bs_size]; simp
  have hx2 : (bs (t.kids.flatMap Ty.code)).size ≤ 64 := by rw [bs_size]; omega
  have s1 := fun W => add_sum (P := Try.prog) (bs [t.head]) (bs (t.kids.flatMap Ty.code)) 64 hx1 hx2 (by decide) W
  rw [hsum] at s1
  have hsz : ¬ (64 : Int) < ((str t).size : Int) := by rw [str, bs_size]; omega
  have hsz' : decide ((64 : Int) < ((str t).size : Int)) = false := by simpa using hsz
  obtain ⟨hd, hhd⟩ : ∃ x, bs [t.head] = x := ⟨_, rfl⟩
  rw [hhd] at hen s1
  generalize bs (t.kids.flatMap Ty.code) = j at hJ s1
  generalize str t = s at s1 hsz hsz' ⊢
  have hn0 : (0 : Int) ≤ (t.head.toNat : Int) := by omega
  have hn1 : (t.head.toNat : Int) < 256 := by have := UInt8.toNat_lt t.head; omega
  generalize (t.head.toNat : Int) = n at har hen hn0 hn1 ⊢
  obtain ⟨K, hK⟩ : ∃ K, t.kids = K := ⟨_, rfl⟩
  rw [hK] at har hck ho hK2 ⊢
  have HCK := Lib.hid hck
  have HJ : Hid (Calls Try.prog 68 #[.slice A K.length c, .string ⟨#[]⟩] w fun e w' => e = .returned (.string j) ∧ Below w.heap.size w w') := Lib.hid (by rw [← hK]; exact hJ)
  clear hck hJ hsum hx1 hx2 hhd hkl h64 ht hK hsz
  go_enter Try.func37, Try.ntmps37
  go_wp2_with fail
  refine (har _).mono ?_
  rintro e w' ⟨rfl, rfl⟩
  go_wp2_with fail
  go_loopg [18] K.length (fun g i wr => ∃ j : Nat, j ≤ K.length ∧ g = K.length - j ∧ i = .int .i64 j ∧ wr = w)
  case atStart => exact ⟨0, by omega, rfl, rfl, rfl⟩
  case round =>
    obtain ⟨j, hj, rfl, rfl, rfl⟩ := hrel
    by_cases hlt : j < K.length
    · obtain ⟨k, hk⟩ : ∃ k, K[j]? = some k := ⟨_, List.getElem?_eq_getElem hlt⟩
      obtain ⟨g, rfl, hg1, hg2, hcell⟩ := own_cell ho hlt
      have hc1 := hcell (.string (str k)) (by rw [List.getElem?_map, hk]; rfl)
      have hcall := Lib.hid (HCK.out k (List.mem_of_getElem? hk))
      generalize str k = p at hc1 hcall
      clear hcell hk
      go_wp2_with fail
      refine (hcall.out _).mono ?_
      rintro e w2 ⟨rfl, rfl⟩
      go_wp2_with fail
      go_roundg (K.length - (j + 1))
      case measure => omega
      case rel => exact ⟨j + 1, by omega, rfl, by go_num, rfl⟩
    · obtain rfl : j = K.length := by omega
      go_wp2_with fail
      refine HJ.out.mono ?_
      rintro e w2 ⟨rfl, hb2⟩
      go_wp2_with fail
      go_ret2
      exact ⟨rfl, hb2⟩
end Go.Proofs.Ythonnpjlkcjoeaa.T
