/- A list of texts of its own with 64 marks behind it: WideTexts, SpareTexts, EqTexts, SizeTexts. -/
import Derived.Test.YthonnpjlkcjoeaaDoorItoa
import Derived.Deep.LoopGhost
import Derived.Deep.QuietTactic
import Derived.BigQuiet
import Derived.Laws.MakeOwn
import Derived.Deep.OwnRows
namespace Go.Proofs.YthonnpjlkcjoeaaDoor.T
open Go.RowKit Go.Proofs.YthonnpjlkcjoeaaDoor.B
set_option linter.unusedSimpArgs false
set_option linter.unusedVariables false

/-- 'make' of n elements and 64 more. -/
theorem make64 {P : Program} (t e : TypeId) (i : TypeInfo) (z : Value) (ht : P.underlying t = some (.slice e)) (hi : P.info? e = some i) (hz : i.zero = some z) (n : Nat) (hb : i.bytes * (n + 64) ≤ 281474976710656) (hn : n + 64 ≤ 9223372036854775807) (w : World) :
    (Instr.makeSlice t (.int .i64 ((n : Int) + 64)) (.int .i64 ((n : Int) + 64))).run P w = .ok (.slice (some ⟨w.heap.size, 0, none⟩) (n + 64) (n + 64)) (w.alloc (.cells (madeCells z.cells ((n + 64) * i.size)) e)) := by
  have h := run_make (P := P) w t e i z ht hi hz .i64 .i64 ((n : Int) + 64) ((n : Int) + 64) (by omega) (Int.le_refl _) (by
    have : ((i.bytes * (n + 64) : Nat) : Int) ≤ 281474976710656 := by omega
    rw [Int.natCast_mul] at this; simpa using this) (by omega)
  rw [show ((n : Int) + 64).toNat = n + 64 by omega] at h
  exact h

abbrev tvals (l : List ByteArray) : List Value := l.map Value.string
def tval (l : List ByteArray) (j : Nat) : ByteArray := if j < l.length then l.getD j default else tmark j
def WideTR (l : List ByteArray) (w : World) (e : Ending) (w' : World) : Prop :=
  e = .returned (.slice (some ⟨w.heap.size, 0, none⟩) l.length (l.length + 64)) ∧ w'.rowIs w.heap.size 9 (l.length + 64) (fun j => .string (tval l j)) ∧ Below w.heap.size w w'

theorem text_cell {w W : World} {l : List ByteArray} {A : Option Addr} (hA : Sl w w.heap.size 1 A l.length (tvals l)) (hb : Below w.heap.size w W) {k : Nat} {s : ByteArray} (hs : l[k]? = some s) : ∃ b o, A = some ⟨b, o, none⟩ ∧ b < w.heap.size ∧ W.cell? ⟨b, o + k, none⟩ = some (.string s) := by
  obtain ⟨b, o, rfl, hlt, hc⟩ := hA.at_ (by have := (List.getElem?_eq_some_iff.1 hs).1; omega)
  exact ⟨b, o, rfl, hlt, (hb.cell (p := ⟨b, o + k, none⟩) hlt).trans (hc k _ (by simp [tvals, hs]))⟩
theorem tval_lo {l : List ByteArray} {k : Nat} {s : ByteArray} (hs : l[k]? = some s) : tval l k = s := by
  unfold tval; rw [if_pos (List.getElem?_eq_some_iff.1 hs).1, List.getD_eq_getElem?_getD, hs]; rfl
theorem tval_hi {l : List ByteArray} {k : Nat} (h : l.length ≤ k) : tval l k = tmark k := if_neg (by omega)
theorem tval_step {l : List ByteArray} {k : Nat} {s : ByteArray} {f : Nat → Value} (h : ∀ j, j < k → f j = .string (tval l j)) (hs : tval l k = s) : ∀ j, j < k + 1 → (if j = k then Value.string s else f j) = .string (tval l j) := by
  intro j hj
  by_cases e : j = k
  · rw [if_pos e, e, hs]
  · rw [if_neg e]; exact h j (by omega)

set_option maxRecDepth 100000 in
set_option maxHeartbeats 1000000 in
theorem wideTexts_any (l : List ByteArray) (A : Option Addr) (c : Nat) (w : World) (hl : l.length ≤ 2147483647) (hA : Sl w w.heap.size 1 A l.length (tvals l)) (ht : Tab w) :
    Calls Tryd.prog 38 #[.slice A l.length c] w fun e w' => WideTR l w e w' := by
  obtain ⟨i0, hi0, hz0, hz1, hz2⟩ := info_parts info9
  have hmk := fun W => make64 (P := Tryd.prog) 67 9 i0 (.string ⟨#[]⟩) Tryd.underlying67 hi0 hz0 l.length (by rw [hz2]; omega) (by omega) W
  rw [hz1] at hmk
  obtain ⟨C, hC⟩ : ∃ C, madeCells (Value.string ⟨#[]⟩).cells ((l.length + 64) * 1) = C := ⟨_, rfl⟩
  rw [hC] at hmk
  have hCs : C.size = l.length + 64 := by rw [← hC, size_madeCells, Nat.mul_one]
  have HC := Lib.hid hCs
  clear hC hCs
  go_enter Tryd.func38, Tryd.ntmps38
  go_wp2_with fail
  clear hmk
  go_loopg [4] (l.length + 64) (fun g i wr => ∃ k : Nat, k ≤ l.length + 64 ∧ g = l.length + 64 - k ∧ i = .int .i64 k ∧ Below w.heap.size w wr ∧
    ∃ f, wr.rowIs w.heap.size 9 (l.length + 64) f ∧ Hid (∀ j, j < k → f j = .string (tval l j)))
  case atStart =>
    refine ⟨0, by omega, rfl, rfl, bal (Below.refl _ _) _, fun j => C.getD j default, ?_, Lib.hid fun j hj => by omega⟩
    rw [← HC.out]
    exact World.rowIs_alloc _ _ _ _ fun i hi => by simp [hi]
  case round =>
    obtain ⟨k, hk, rfl, rfl, hb, f, hf, HF⟩ := hrel
    by_cases h1 : k < l.length + 64
    · have d0 := hf.cell h1
      have z0 := hf.frozen k
      by_cases h2 : k < l.length
      · obtain ⟨s, hs⟩ : ∃ s, l[k]? = some s := ⟨_, List.getElem?_eq_getElem h2⟩
        obtain ⟨bb, o, rfl, hbb, c0⟩ := text_cell hA hb hs
        have HV := Lib.hid (tval_lo hs)
        go_wp2_with fail
        go_roundg (l.length + 64 - (k + 1))
        case measure => omega
        case rel => exact ⟨k + 1, by omega, rfl, by go_num, hb.setCell (p := ⟨w.heap.size, k, none⟩) (Nat.le_refl _) _, _, hf.set k _, Lib.hid (tval_step HF.out HV.out)⟩
      · have HV : Hid (tval l k = tmark k) := Lib.hid (tval_hi (by omega))
        have hcall := Lib.hid (text_any k w wr (by omega) ht hb)
        generalize tmark k = m at HV hcall
        go_wp2_with fail
        refine hcall.out.mono ?_
        rintro e w2 ⟨rfl, hb2⟩
        have hf2 := hf.of_block (hb2.block _ hf.lt)
        have d1 := hf2.cell h1
        have z1 := hf2.frozen k
        go_wp2_with fail
        go_roundg (l.length + 64 - (k + 1))
        case measure => omega
        case rel => exact ⟨k + 1, by omega, rfl, by go_num, (bl hb hb2).setCell (p := ⟨w.heap.size, k, none⟩) (Nat.le_refl _) _, _, hf2.set k _, Lib.hid (tval_step HF.out HV.out)⟩
    · go_wp2_with fail
      go_ret
      exact ⟨rfl, hf.congr fun j hj => HF.out j (by omega), hb⟩

set_option maxRecDepth 100000 in
theorem spareTexts_any (l : List ByteArray) (g : Nat) (w0 w : World) (hl : l.length ≤ 2147483647) (hr : w.rowIs g 9 (l.length + 64) (fun j => .string (tval l j))) (ht : Tab w0) (hb0 : Below w0.heap.size w0 w) :
    Calls Tryd.prog 41 #[.slice (some ⟨g, 0, none⟩) l.length (l.length + 64)] w fun e w' => e = .returned (.bool true) ∧ Below w.heap.size w w' := by
  go_enter Tryd.func41, Tryd.ntmps41
  go_wp2_with fail
  go_loopg [4] 64 (fun q i wr => ∃ k : Nat, l.length ≤ k ∧ k ≤ l.length + 64 ∧ q = l.length + 64 - k ∧ i = .int .i64 k ∧ Below w.heap.size w wr)
  case atStart => exact ⟨l.length, by omega, by omega, by omega, rfl, Below.refl _ _⟩
  case round =>
    obtain ⟨k, hk0, hk, rfl, rfl, hb⟩ := hrel
    by_cases h1 : k < l.length + 64
    · have d0 := (hr.of_block (hb.block _ hr.lt)).cell h1
      rw [tval_hi hk0] at d0
      have hcall := Lib.hid (text_any k w0 wr (by omega) ht (hb0.trans ⟨hb.os, hb.tape, hb.output, hb.size, fun j hj => hb.block j (Nat.lt_of_lt_of_le hj hb0.size)⟩))
      generalize tmark k = m at d0 hcall
      go_wp2_with fail
      refine hcall.out.mono ?_
      rintro e w2 ⟨rfl, hb2⟩
      go_wp2_with fail
      go_roundg (l.length + 64 - (k + 1))
      case measure => omega
      case rel => exact ⟨k + 1, by omega, by omega, rfl, by go_num, bl hb hb2⟩
    · go_wp2_with fail
      go_ret
      exact ⟨rfl, hb⟩

theorem eqTexts_any (l : List ByteArray) (A A' : Option Addr) (c c' : Nat) (w : World) (hl : l.length ≤ 2147483647) (hA : Sl w w.heap.size 1 A l.length (tvals l)) (hA' : Sl w w.heap.size 1 A' l.length (tvals l)) :
    Calls Tryd.prog 34 #[.slice A l.length c, .slice A' l.length c'] w fun e w' => e = .returned (.bool true) ∧ Below w.heap.size w w' := by
  go_enter Tryd.func34, Tryd.ntmps34
  go_wp2_with fail
  go_loopg [5] l.length (fun g i wr => ∃ k : Nat, k ≤ l.length ∧ g = l.length - k ∧ i = .int .i64 k ∧ ∃ m, wr = w.drewN m)
  case atStart => exact ⟨0, by omega, rfl, rfl, 0, rfl⟩
  case round =>
    obtain ⟨k, hk, rfl, rfl, m, rfl⟩ := hrel
    by_cases h1 : k < l.length
    · obtain ⟨s, hs⟩ : ∃ s, l[k]? = some s := ⟨_, List.getElem?_eq_getElem h1⟩
      obtain ⟨bb, o, rfl, hbb, c0⟩ := text_cell hA (Below.refl _ _) hs
      obtain ⟨bb', o', rfl, hbb', d0⟩ := text_cell hA' (Below.refl _ _) hs
      go_wp2_with fail
      go_quiet (fail)
      go_wp2_with fail
      go_roundg (l.length - (k + 1))
      case measure => omega
      case rel => exact ⟨k + 1, by omega, rfl, by go_num, m + nq, rfl⟩
    · go_wp2_with fail
      go_ret
      exact ⟨rfl, below_drewN (Below.refl _ _) _⟩

def tot (l : List ByteArray) : Nat := (l.map ByteArray.size).sum
theorem tot_next {l : List ByteArray} {k : Nat} {s : ByteArray} (h : l[k]? = some s) : tot (l.take (k + 1)) = tot (l.take k) + s.size := by
  unfold tot; rw [List.take_add_one, h]; simp
theorem tot_le (l : List ByteArray) (k : Nat) : tot (l.take k) ≤ tot l := by
  conv => rhs; rw [← List.take_append_drop k l]
  unfold tot
  rw [List.map_append, List.sum_append]
  omega
def SizeTR (l : List ByteArray) (e : Ending) : Prop := ∃ S : Nat, e = .returned (.int .i64 S) ∧ S ≤ 4611686018427387904 ∧ (S ≤ 2147483647 → S = l.length + tot l)
set_option maxRecDepth 100000 in
theorem sizeTexts_any (l : List ByteArray) (A : Option Addr) (c : Nat) (w : World) (hl : l.length ≤ 140737488355328) (hz : ∀ s ∈ l, s.size ≤ 140737488355328) (hA : Sl w w.heap.size 1 A l.length (tvals l)) :
    Calls Tryd.prog 37 #[.slice A l.length c] w fun e w' => SizeTR l e ∧ w = w' := by
  have HZ := Lib.hid hz
  go_enter Tryd.func37, Tryd.ntmps37
  go_wp2_with fail
  go_loopg [3, 4] l.length (fun g n i wr => ∃ k S : Nat, k ≤ l.length ∧ g = l.length - k ∧ i = .int .i64 k ∧ n = .int .i64 S ∧ Hid (S = l.length + tot (l.take k)) ∧ S ≤ 2147483647 + 281474976710656 ∧ wr = w)
  case atStart => exact ⟨0, l.length, by omega, rfl, rfl, rfl, Lib.hid (by simp [tot]), by omega, rfl⟩
  case round =>
    obtain ⟨k, S, hk, rfl, rfl, rfl, HS, hS2, rfl⟩ := hrel
    by_cases h1 : k < l.length
    · obtain ⟨s, hs⟩ : ∃ s, l[k]? = some s := ⟨_, List.getElem?_eq_getElem h1⟩
      obtain ⟨bb, o, rfl, hbb, c0⟩ := text_cell hA (Below.refl _ _) hs
      have hsz := HZ.out s (List.mem_of_getElem? hs)
      have HT := Lib.hid (tot_next hs)
      by_cases h2 : S ≤ 2147483647
      · go_wp2_with fail
        go_roundg (l.length - (k + 1))
        case measure => omega
        case rel => exact ⟨k + 1, S + s.size, by omega, rfl, by go_num, by go_num, Lib.hid (by rw [HT.out, HS.out]; omega), by omega, rfl⟩
      · go_wp2_with fail
        go_ret
        exact ⟨⟨S, rfl, by omega, fun h => absurd h h2⟩, rfl⟩
    · obtain rfl : k = l.length := by omega
      have HS2 : Hid (S = l.length + tot l) := Lib.hid (by rw [HS.out, List.take_length])
      go_wp2_with fail
      go_ret
      exact ⟨⟨S, rfl, by omega, fun _ => HS2.out⟩, rfl⟩
end Go.Proofs.YthonnpjlkcjoeaaDoor.T
