/- A list of its own with 64 marks behind it: WideSites, SpareSites, EqSites. -/
import Derived.Test.YthonnpjlkcjoeaaDoorLabelA
import Derived.Deep.LoopGhost
import Derived.Deep.QuietTactic
import Derived.BigQuiet
import Derived.Laws.MakeOwn
import Derived.Deep.OwnRows
import Derived.Deep.MidRow
import Derived.Lib.LazyBuf
namespace Go.Proofs.YthonnpjlkcjoeaaDoor.La
open Go.RowKit Go.Proofs.YthonnpjlkcjoeaaDoor.B
set_option linter.unusedSimpArgs false
set_option linter.unusedVariables false

theorem num_any (n i : Int) (w : World) (h0 : 0 ≤ n) (h1 : n ≤ 1048576) (h2 : 0 ≤ i) (h3 : i ≤ 4611686018427387904) :
    Calls Tryd.prog 43 #[.int .i64 n, .int .i64 i] w fun e w' => e = .returned (.int .i64 (1048576 * n + i + 1)) ∧ w = w' := by
  go_enter Tryd.func43, Tryd.ntmps43
  go_wp2
  go_ret
  exact ⟨rfl, rfl⟩

/-- 'make' of n elements and 64 more. -/
theorem run_make64 {P : Program} (t e : TypeId) (i : TypeInfo) (z : Value) (ht : P.underlying t = some (.slice e)) (hi : P.info? e = some i) (hz : i.zero = some z) (n : Nat) (hb : i.bytes * (n + 64) ≤ 281474976710656) (hn : n + 64 ≤ 9223372036854775807) (w : World) :
    (Instr.makeSlice t (.int .i64 ((n : Int) + 64)) (.int .i64 ((n : Int) + 64))).run P w = .ok (.slice (some ⟨w.heap.size, 0, none⟩) (n + 64) (n + 64)) (w.alloc (.cells (madeCells z.cells ((n + 64) * i.size)) e)) := by
  have h := run_make (P := P) w t e i z ht hi hz .i64 .i64 ((n : Int) + 64) ((n : Int) + 64) (by omega) (Int.le_refl _) (by
    have : ((i.bytes * (n + 64) : Nat) : Int) ≤ 281474976710656 := by omega
    rw [Int.natCast_mul] at this; simpa using this) (by omega)
  rw [show ((n : Int) + 64).toNat = n + 64 by omega] at h
  exact h

theorem row_there {w : World} {b : Nat} {t : TypeId} {N : Nat} {f : Nat → Value} (h : w.rowIs b t N f) (o k : Nat) (hk : o + k ≤ N) : w.there b o k := fun j hj =>
  ⟨by rw [h.cell (i := o + j) (by omega)]; rfl, h.frozen _⟩

def mark (i : Int) : Site := ⟨⟨#[]⟩, ⟨#[]⟩, 0, 0, 9437184 + i + 1⟩
def marks (n : Nat) : List Site := (List.range 64).map fun j => mark ((n + j : Nat) : Int)
/-- The list with its marks, whole. -/
def whole (l : List Site) : List Site := l ++ marks l.length
theorem whole_len (l : List Site) : (whole l).length = l.length + 64 := by simp [whole, marks]
theorem whole_lo {l : List Site} {k : Nat} (h : k < l.length) : (whole l)[k]? = l[k]? := by unfold whole; rw [List.getElem?_append_left h]
theorem whole_hi {l : List Site} {k : Nat} (h : l.length ≤ k) (h2 : k < l.length + 64) : (whole l)[k]? = some (mark k) := by
  unfold whole marks
  rw [List.getElem?_append_right h, List.getElem?_map, List.getElem?_range (by omega)]
  rw [Option.map_some, show l.length + (k - l.length) = k by omega]

theorem site_one (s : Site) : ∀ v ∈ s.vs, v.oneCell' = true := by
  intro u hs
  simp [Site.vs] at hs
  rcases hs with rfl | rfl | rfl | rfl | rfl <;> rfl
theorem below_setCells {B b : Nat} {a : World} (hb : B ≤ b) (vs : List Value) (o : Nat) (w : World) (h : Below B a w) : Below B a (w.setCells b o vs) := _root_.Go.below_setCells hb vs o w h
theorem whole_step {X : List Site} {k : Nat} {s : Site} {f : Nat → Value} (h : ∀ j, j < k * 5 → f j = (cells X).getD j default) (hs : X[k]? = some s) :
    ∀ j, j < (k + 1) * 5 → (if k * 5 ≤ j ∧ j < k * 5 + s.vs.length then s.vs[j - k * 5]?.getD default else f j) = (cells X).getD j default := by
  intro j hj
  have hl : s.vs.length = 5 := rfl
  by_cases h1 : j < k * 5
  · rw [if_neg (by omega)]; exact h j h1
  · rw [if_pos (by omega)]
    have := cells_at X k s (j - k * 5) hs (by omega)
    rw [show k * 5 + (j - k * 5) = j by omega] at this
    rw [List.getD_eq_getElem?_getD, this]

theorem hin5 : (Tryd.prog.info? 31).map (·.size) = some 5 := by kernel_rfl
theorem info31' : (Tryd.prog.info? 31).map (fun i => (i.zero, i.size, i.bytes)) = some (some (.agg blank), 5, 56) := by kernel_rfl

def WideSR (l : List Site) (w : World) (e : Ending) (w' : World) : Prop :=
  e = .returned (.slice (some ⟨w.heap.size, 0, none⟩) l.length (l.length + 64)) ∧ w'.rowIs w.heap.size 31 ((l.length + 64) * 5) (fun j => (cells (whole l)).getD j default) ∧ Below w.heap.size w w'

set_option maxRecDepth 100000 in
set_option maxHeartbeats 1000000 in
theorem wideSites_any (l : List Site) (A : Option Addr) (c : Nat) (w : World) (hl : l.length ≤ 2048) (hA : Sl w w.heap.size 5 A l.length (cells l)) :
    Calls Tryd.prog 9 #[.slice A l.length c] w fun e w' => WideSR l w e w' := by
  obtain ⟨i0, hi0, hz0, hz1, hz2⟩ := info_parts info31'
  have hmk := fun W => run_make64 (P := Tryd.prog) 22 31 i0 (.agg blank) Tryd.underlying22 hi0 hz0 l.length (by rw [hz2]; omega) (by omega) W
  rw [hz1] at hmk
  obtain ⟨C, hC⟩ : ∃ C, madeCells (Value.agg blank).cells ((l.length + 64) * 5) = C := ⟨_, rfl⟩
  rw [hC] at hmk
  have hCs : C.size = (l.length + 64) * 5 := by rw [← hC]; exact size_madeCells _ _
  have HC := Lib.hid hCs
  clear hC hCs
  go_enter Tryd.func9, Tryd.ntmps9
  go_wp2_with fail
  clear hmk
  go_loopg [4] (l.length + 64) (fun g i wr => ∃ k : Nat, k ≤ l.length + 64 ∧ g = l.length + 64 - k ∧ i = .int .i64 k ∧ Below w.heap.size w wr ∧
    ∃ f, wr.rowIs w.heap.size 31 ((l.length + 64) * 5) f ∧ Hid (∀ j, j < k * 5 → f j = (cells (whole l)).getD j default))
  case atStart =>
    refine ⟨0, by omega, rfl, rfl, bal (Below.refl _ _) _, fun j => C.getD j default, ?_, Lib.hid fun j hj => by omega⟩
    rw [← HC.out]
    exact World.rowIs_alloc _ _ _ _ fun i hi => by simp [hi]
  case round =>
    obtain ⟨k, hk, rfl, rfl, hb, f, hf, HF⟩ := hrel
    by_cases h1 : k < l.length + 64
    · by_cases h2 : k < l.length
      · obtain ⟨s, hs⟩ : ∃ s, l[k]? = some s := ⟨_, List.getElem?_eq_getElem h2⟩
        have hA' := hA.below hb
        obtain ⟨bb, o, rfl, hbb, c0, c1, c2, c3, c4⟩ := site_cells hA' hs
        have hth : wr.there w.heap.size (k * 5) s.vs.toArray.size := row_there hf (k * 5) 5 (by omega)
        have hon := all_oneCell_toArray (site_one s)
        have hin : (Tryd.prog.info? 31).map (·.size) = some s.vs.toArray.size := hin5
        go_wp2_with (with_reducible refine wpList_store_mid rfl 31 (.tmp 25) (.tmp 24) rfl w.heap.size (k * 5) s.vs.toArray ?_ ?_ hth hin hon ?_)
        · rfl
        · rfl
        go_roundg (l.length + 64 - (k + 1))
        case measure => omega
        case rel => exact ⟨k + 1, by omega, rfl, by go_num, below_setCells (Nat.le_refl _) _ _ _ hb, _, _root_.Go.rowIs_setCells _ _ _ _ hf, Lib.hid (whole_step HF.out (by rw [whole_lo h2]; exact hs))⟩
      · have h2' : l.length ≤ k := by omega
        have hth : wr.there w.heap.size (k * 5) (mark k).vs.toArray.size := row_there hf (k * 5) 5 (by omega)
        have hon := all_oneCell_toArray (site_one (mark k))
        have hin : (Tryd.prog.info? 31).map (·.size) = some (mark k).vs.toArray.size := hin5
        have hnum := fun W => num_any 9 k W (by omega) (by omega) (by omega) (by omega)
        go_wp2_with fail
        refine (hnum _).mono ?_
        rintro e w' ⟨rfl, rfl⟩
        go_wp2_with (with_reducible refine wpList_store_mid rfl 31 (.tmp 31) (.tmp 30) rfl w.heap.size (k * 5) (mark k).vs.toArray ?_ ?_ hth hin hon ?_)
        · rfl
        · rfl
        go_roundg (l.length + 64 - (k + 1))
        case measure => omega
        case rel => exact ⟨k + 1, by omega, rfl, by go_num, below_setCells (Nat.le_refl _) _ _ _ hb, _, _root_.Go.rowIs_setCells _ _ _ _ hf, Lib.hid (whole_step HF.out (whole_hi h2' h1))⟩
    · go_wp2_with fail
      go_ret
      exact ⟨rfl, hf.congr fun j hj => HF.out j (by omega), hb⟩

theorem whole_sl {W : World} {l : List Site} {g : Nat} (h : W.rowIs g 31 ((l.length + 64) * 5) (fun j => (cells (whole l)).getD j default)) : Sl W W.heap.size 5 (some ⟨g, 0, none⟩) (whole l).length (cells (whole l)) := by
  refine ⟨cells_len _, .inr ⟨g, 0, rfl, h.lt, fun j u hu => ?_⟩⟩
  have hj : j < (l.length + 64) * 5 := by have := (List.getElem?_eq_some_iff.1 hu).1; rw [cells_len, whole_len] at this; exact this
  rw [Nat.zero_add, h.cell hj, List.getD_eq_getElem?_getD, hu]; rfl
theorem wide_sl {W : World} {l : List Site} {g : Nat} (h : W.rowIs g 31 ((l.length + 64) * 5) (fun j => (cells (whole l)).getD j default)) : Sl W W.heap.size 5 (some ⟨g, 0, none⟩) l.length (cells l) := by
  refine ⟨cells_len _, .inr ⟨g, 0, rfl, h.lt, fun j u hu => ?_⟩⟩
  have hj : j < l.length * 5 := by have := (List.getElem?_eq_some_iff.1 hu).1; rw [cells_len] at this; exact this
  have : (cells (whole l))[j]? = some u := by
    unfold whole cells; rw [List.flatMap_append, List.getElem?_append_left (by show j < (cells l).length; rw [cells_len]; exact hj)]; exact hu
  rw [Nat.zero_add, h.cell (by omega), List.getD_eq_getElem?_getD, this]; rfl

theorem eqSites_any (l : List Site) (A A' : Option Addr) (c c' : Nat) (w : World) (hl : l.length ≤ 4611686018427387904) (hA : Sl w w.heap.size 5 A l.length (cells l)) (hA' : Sl w w.heap.size 5 A' l.length (cells l)) :
    Calls Tryd.prog 22 #[.slice A l.length c, .slice A' l.length c'] w fun e w' => e = .returned (.bool true) ∧ Below w.heap.size w w' := by
  go_enter Tryd.func22, Tryd.ntmps22
  go_wp2_with fail
  go_loopg [5] l.length (fun g i wr => ∃ k : Nat, k ≤ l.length ∧ g = l.length - k ∧ i = .int .i64 k ∧ ∃ m, wr = w.drewN m)
  case atStart => exact ⟨0, by omega, rfl, rfl, 0, rfl⟩
  case round =>
    obtain ⟨k, hk, rfl, rfl, m, rfl⟩ := hrel
    by_cases h1 : k < l.length
    · obtain ⟨s, hs⟩ : ∃ s, l[k]? = some s := ⟨_, List.getElem?_eq_getElem h1⟩
      obtain ⟨bb, o, rfl, hbb, c0, c1, c2, c3, c4⟩ := site_cells hA hs
      obtain ⟨bb', o', rfl, hbb', d0, d1, d2, d3, d4⟩ := site_cells hA' hs
      go_wp2_with fail
      go_quiet (fail)
      go_wp2_with fail
      go_roundg (l.length - (k + 1))
      case measure => omega
      case rel => exact ⟨k + 1, by omega, rfl, by go_num, m + nq, rfl⟩
    · go_wp2_with fail
      go_ret
      exact ⟨rfl, below_drewN (Below.refl _ _) _⟩

theorem spareSites_any (l : List Site) (A : Option Addr) (g : Nat) (w : World) (hl : l.length ≤ 2048) (hA : Sl w w.heap.size 5 (some ⟨g, 0, none⟩) (l.length + 64) (cells (whole l))) :
    Calls Tryd.prog 23 #[.slice (some ⟨g, 0, none⟩) l.length (l.length + 64)] w fun e w' => e = .returned (.bool true) ∧ Below w.heap.size w w' := by
  have HA : ∀ W, Below w.heap.size w W → Sl W w.heap.size 5 (some ⟨g, 0, none⟩) (whole l).length (cells (whole l)) := fun W h => by rw [whole_len]; exact hA.below h
  clear hA
  go_enter Tryd.func23, Tryd.ntmps23
  go_wp2_with fail
  go_loopg [4] 64 (fun q i wr => ∃ k : Nat, l.length ≤ k ∧ k ≤ l.length + 64 ∧ q = l.length + 64 - k ∧ i = .int .i64 k ∧ Below w.heap.size w wr)
  case atStart => exact ⟨l.length, by omega, by omega, by omega, rfl, Below.refl _ _⟩
  case round =>
    obtain ⟨k, hk0, hk, rfl, rfl, hb⟩ := hrel
    by_cases h1 : k < l.length + 64
    · obtain ⟨bb, o, he, hbb, c0, c1, c2, c3, c4⟩ := site_cells (HA _ hb) (whole_hi hk0 h1)
      injection he with he
      injection he with he1 he2 _
      subst he1 he2
      have hnum := fun W => num_any 9 k W (by omega) (by omega) (by omega) (by omega)
      have hnum2 := fun W => (hnum W).mono (fun e w' h => And.intro h.1 h.2.symm)
      unfold mark at c0 c1 c2 c3 c4
      simp only [Nat.zero_add] at c0 c1 c2 c3 c4
      go_wp2_with fail
      go_quiet ((go_at_call 43; refine Calls.quiet_of_same (hnum2 _)))
      go_wp2_with fail
      go_roundg (l.length + 64 - (k + 1))
      case measure => omega
      case rel => exact ⟨k + 1, by omega, by omega, rfl, by go_num, bdr (bal hb _) _⟩
    · go_wp2_with fail
      go_ret
      exact ⟨rfl, hb⟩
end Go.Proofs.YthonnpjlkcjoeaaDoor.La
