/- TypesMakes' walk. -/
import Derived.Test.YthonnpjlkcjoeaaDoorMakeR
import Derived.Test.YthonnpjlkcjoeaaDoorLive2
namespace Go.Proofs.YthonnpjlkcjoeaaDoor.T
open Go.RowKit Go.Proofs.YthonnpjlkcjoeaaDoor.B
set_option linter.unusedSimpArgs false
set_option linter.unusedVariables false

theorem wide_text_sl {W : World} {l : List ByteArray} {g : Nat} (h : W.rowIs g 9 (l.length + 64) (fun j => .string (tval l j))) : Sl W W.heap.size 1 (some ⟨g, 0, none⟩) l.length (tvals l) := by
  refine ⟨by simp [tvals], .inr ⟨g, 0, rfl, h.lt, fun j u hu => ?_⟩⟩
  have hj : j < l.length := by have := (List.getElem?_eq_some_iff.1 hu).1; simpa [tvals] using this
  have hs : l[j]? = some l[j] := List.getElem?_eq_getElem hj
  have hv : u = .string l[j] := by simpa [tvals, hs] using hu.symm
  rw [Nat.zero_add, h.cell (by omega), hv, tval_lo hs]

set_option maxRecDepth 100000 in
set_option maxHeartbeats 1000000 in
theorem typesMakes_any (ch : UInt8) (l : List ByteArray) (A : Option Addr) (c : Nat) (w : World) (hl : l.length ≤ 140737488355328) (hz : ∀ s ∈ l, s.size ≤ 140737488355328) (hA : Sl w w.heap.size 1 A l.length (tvals l)) (ht : Tab w) :
    Calls Tryd.prog 6 #[.int .u8 ch.toNat, .slice A l.length c] w fun e w' => e = .returned (.bool true) ∧ Below w.heap.size w w' := by
  have b0 : Below w.heap.size w w := Below.refl _ _
  have HS := Lib.hid (sizeTexts_any l A c w hl hz hA)
  have HW : Hid (l.length ≤ 2147483647 → Calls Tryd.prog 38 #[.slice A l.length c] w fun e w' => WideTR l w e w') := Lib.hid fun h => wideTexts_any l A c w h hA ht
  have HM : Hid (l.length ≤ 2147483647 → ∀ (g : Nat) (W : World), W.rowIs g 9 (l.length + 64) (fun j => .string (tval l j)) → Calls Tryd.prog 39 #[.int .u8 ch.toNat, .slice (some ⟨g, 0, none⟩) l.length (l.length + 64)] W fun e w' => MakeR ch l W e w') :=
    Lib.hid fun h g W hr => makeP_any ch l _ _ W h hz (by omega) (wide_text_sl hr)
  have HR : Hid (l.length ≤ 2147483647 → ∀ (W : World), Below w.heap.size w W → Calls Tryd.prog 40 #[.int .u8 ch.toNat, .slice A l.length c] W fun e w' => MakeR ch l W e w') :=
    Lib.hid fun h W hb => makeR_any ch l A c W h hz ((hA.below hb).more hb.size)
  have HE : Hid (l.length ≤ 2147483647 → ∀ (g : Nat) (W : World), W.rowIs g 9 (l.length + 64) (fun j => .string (tval l j)) → Below w.heap.size w W → Calls Tryd.prog 34 #[.slice (some ⟨g, 0, none⟩) l.length (l.length + 64), .slice A l.length c] W (fun e w' => e = .returned (.bool true) ∧ Below W.heap.size W w')) :=
    Lib.hid fun h g W hr hb => eqTexts_any l _ A _ c W h (wide_text_sl hr) ((hA.below hb).more hb.size)
  have HP : Hid (l.length ≤ 2147483647 → ∀ (g : Nat) (W : World), W.rowIs g 9 (l.length + 64) (fun j => .string (tval l j)) → Below w.heap.size w W → Calls Tryd.prog 41 #[.slice (some ⟨g, 0, none⟩) l.length (l.length + 64)] W (fun e w' => e = .returned (.bool true) ∧ Below W.heap.size W w')) :=
    Lib.hid fun h g W hr hb => spareTexts_any l g w W h hr ht hb
  unfold MakeR at HM HR
  generalize makeL ch l = M at HM HR
  obtain ⟨m1, m2⟩ := M
  simp only at HM HR
  generalize (ch.toNat : Int) = n at *
  clear hA ht hz
  go_enter Tryd.func6, Tryd.ntmps6
  go_wp2_with fail
  refine HS.out.mono ?_
  rintro e w' ⟨⟨S, rfl, hS1, hS2⟩, rfl⟩
  by_cases hS : 2147483647 < S
  · go_wp2_with (go_at_call 29; go_in)
    go_ret
    exact ⟨rfl, b0⟩
  · have hS3 : S ≤ 2147483647 := by omega
    have hln : l.length ≤ 2147483647 := by have := hS2 hS3; omega
    clear hS2 hS
    go_wp2_with (go_at_call 29; go_in)
    refine (HW.out hln).mono ?_
    rintro e w1 ⟨rfl, hr1, hb1⟩
    go_wp2_with fail
    refine (HM.out hln _ _ hr1).mono ?_
    rintro e w2 ⟨rfl, hb2⟩
    have hr2 := hr1.of_block (hb2.block _ hr1.lt)
    have hb2' := bl hb1 hb2
    go_wp2_with fail
    refine (HR.out hln _ hb2').mono ?_
    rintro e w3 ⟨rfl, hb3⟩
    have hr3 := hr2.of_block (hb3.block _ hr2.lt)
    have hb3' := bl hb2' hb3
    go_wp2_with fail
    refine (HE.out hln _ _ hr3 hb3').mono ?_
    rintro e w4 ⟨rfl, hb4⟩
    have hr4 := hr3.of_block (hb4.block _ hr3.lt)
    have hb4' := bl hb3' hb4
    go_wp2_with fail
    refine (HP.out hln _ _ hr4 hb4').mono ?_
    rintro e w5 ⟨rfl, hb5⟩
    have hb5' := bl hb4' hb5
    go_wp2_with fail
    refine (lives02 _).mono ?_
    rintro e w6 ⟨rfl, hb6⟩
    go_wp2_with fail
    go_ret
    exact ⟨rfl, bl hb5' hb6⟩

theorem typesMakes_int (n : Int) (l : List ByteArray) (A : Option Addr) (c : Nat) (w : World) (h0 : 0 ≤ n) (h1 : n ≤ 255) (hl : l.length ≤ 140737488355328) (hz : ∀ s ∈ l, s.size ≤ 140737488355328) (hA : Sl w w.heap.size 1 A l.length (tvals l)) (ht : Tab w) :
    Calls Tryd.prog 6 #[.int .u8 n, .slice A l.length c] w fun e w' => e = .returned (.bool true) ∧ Below w.heap.size w w' := by
  obtain ⟨ch, rfl⟩ : ∃ ch : UInt8, n = (ch.toNat : Int) := ⟨UInt8.ofNat n.toNat, by rw [UInt8.toNat_ofNat_of_lt' (by show n.toNat < 256; omega)]; omega⟩
  exact typesMakes_any ch l A c w hl hz hA ht
end Go.Proofs.YthonnpjlkcjoeaaDoor.T
