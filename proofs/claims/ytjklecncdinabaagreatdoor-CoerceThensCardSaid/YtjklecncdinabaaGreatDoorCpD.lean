/- A list of nodes of its own with 64 marks behind it: WideCos, SpareCos. -/
import Derived.Test.YtjklecncdinabaaGreatDoorCoV
import Derived.Deep.LoopGhost
import Derived.Deep.QuietTactic
import Derived.BigQuiet
import Derived.Laws.MakeOwn
import Derived.Deep.OwnRows
import Derived.Deep.MidRow
import Derived.Lib.LazyBuf
namespace Go.Proofs.YtjklecncdinabaaGreatDoor.C
open Go.RowKit Go.Proofs.YtjklecncdinabaaGreatDoor.B
set_option linter.unusedSimpArgs false
set_option linter.unusedVariables false

theorem num_any (n i : Int) (w : World) (h0 : 0 ≤ n) (h1 : n ≤ 1048576) (h2 : 0 ≤ i) (h3 : i ≤ 4611686018427387904) :
    Calls Tryz.prog 18 #[.int .i64 n, .int .i64 i] w fun e w' => e = .returned (.int .i64 (1048576 * n + i + 1)) ∧ w = w' := by
  go_enter Tryz.func18, Tryz.ntmps18
  go_wp2
  go_ret
  exact ⟨rfl, rfl⟩

/-- 'make' of n elements and 64 more. -/
theorem run_make64 {P : Program} (t e : TypeId) (i : TypeInfo) (z : Value) (ht : P.underlying t = some (.slice e)) (hi : P.info? e = some i) (hz : i.zero = some z) (n : Nat) (hb : i.bytes * (n + 64) ≤ 281474976710656) (hn : n + 64 ≤ 9223372036854775807) (w : World) :
    (Instr.makeSlice t (.int .i64 ((n : Int) + 64)) (.int .i64 ((n : Int) + 64))).run P w = .ok (.slice (some ⟨w.heap.size, 0, none⟩) (n + 64) (n + 64)) (w.alloc (.cells (madeCells z.cells ((n + 64) * i.size)) e)) := by
  have h := run_make (P := P) w t e i z ht hi hz .i64 .i64 ((n : Int) + 64) ((n : Int) + 64) (by omega) (Int.le_refl _) (by
    have : ((i.bytes * (n + 64) : Nat) : Int) ≤ 281474976710656 := by omega
    rw [Int.natCast_mul] at this; simpa using this) (by omega)
  rw [show ((n : Int) + 64).toNat = n + 64 by omega] at h
  exact h

theorem row_there {w : World} {b : Nat} {t : TypeId} {N : Nat} {f : Nat → Value} (h : w.rowIs b t N f) (o k : Nat) (hk : o + k ≤ N) : w.there b o k := fun j hj =>
  ⟨by rw [h.cell (i := o + j) (by omega)]; rfl, h.frozen _⟩

def blankC : Array Value := #[.int .i8 0, .int .i64 0, .bool false, .int .u8 0, .int .i64 0, .int .u8 0, .int .u8 0]
def markC (i : Int) : Nd := ⟨0, 0, false, 0, 9437184 + i + 1, 0, 0⟩
def marksC (n : Nat) : List Nd := (List.range 64).map fun j => markC ((n + j : Nat) : Int)
/-- The list with its marks, whole. -/
def wholeN (l : List Nd) : List Nd := l ++ marksC l.length
theorem wholeN_len (l : List Nd) : (wholeN l).length = l.length + 64 := by simp [wholeN, marksC]
theorem wholeN_lo {l : List Nd} {k : Nat} (h : k < l.length) : (wholeN l)[k]? = l[k]? := by unfold wholeN; rw [List.getElem?_append_left h]
theorem wholeN_hi {l : List Nd} {k : Nat} (h : l.length ≤ k) (h2 : k < l.length + 64) : (wholeN l)[k]? = some (markC k) := by
  unfold wholeN marksC
  rw [List.getElem?_append_right h, List.getElem?_map, List.getElem?_range (by omega)]
  rw [Option.map_some, show l.length + (k - l.length) = k by omega]

theorem nd_one (s : Nd) : ∀ v ∈ s.vs, v.oneCell' = true := by
  intro u hs
  simp only [Nd.vs, List.mem_cons, List.not_mem_nil, or_false] at hs
  rcases hs with rfl | rfl | rfl | rfl | rfl | rfl | rfl <;> rfl
theorem below_setCellsC {B b : Nat} {a : World} (hb : B ≤ b) (vs : List Value) (o : Nat) (w : World) (h : Below B a w) : Below B a (w.setCells b o vs) := _root_.Go.below_setCells hb vs o w h
theorem wholeN_step {X : List Nd} {k : Nat} {s : Nd} {f : Nat → Value} (h : ∀ j, j < k * 7 → f j = (nds X).getD j default) (hs : X[k]? = some s) :
    ∀ j, j < (k + 1) * 7 → (if k * 7 ≤ j ∧ j < k * 7 + s.vs.length then s.vs[j - k * 7]?.getD default else f j) = (nds X).getD j default := by
  intro j hj
  have hl : s.vs.length = 7 := rfl
  by_cases h1 : j < k * 7
  · rw [if_neg (by omega)]; exact h j h1
  · rw [if_pos (by omega)]
    have := nds_at X k s (j - k * 7) hs (by omega)
    rw [show k * 7 + (j - k * 7) = j by omega] at this
    rw [List.getD_eq_getElem?_getD, this]

theorem hin7 : (Tryz.prog.info? 28).map (·.size) = some 7 := by kernel_rfl

def WideCR (l : List Nd) (w : World) (e : Ending) (w' : World) : Prop :=
  e = .returned (.slice (some ⟨w.heap.size, 0, none⟩) l.length (l.length + 64)) ∧ w'.rowIs w.heap.size 28 ((l.length + 64) * 7) (fun j => (nds (wholeN l)).getD j default) ∧ Below w.heap.size w w'

set_option maxRecDepth 100000 in
set_option maxHeartbeats 1000000 in
theorem wideCos_any (l : List Nd) (A : Option Addr) (c : Nat) (w : World) (hl : l.length ≤ 16384) (hA : LN w A l) :
    Calls Tryz.prog 6 #[.slice A l.length c] w fun e w' => WideCR l w e w' := by
  obtain ⟨i0, hi0, hz0, hz1, hz2⟩ := info_three infoCo
  have hmk := fun W => run_make64 (P := Tryz.prog) 22 28 i0 (.agg blankC) Tryz.underlying22 hi0 hz0 l.length (by rw [hz2]; omega) (by omega) W
  rw [hz1] at hmk
  obtain ⟨C, hC⟩ : ∃ C, madeCells (Value.agg blankC).cells ((l.length + 64) * 7) = C := ⟨_, rfl⟩
  rw [hC] at hmk
  have hCs : C.size = (l.length + 64) * 7 := by rw [← hC]; exact size_madeCells _ _
  have HC := Lib.hid hCs
  clear hC hCs
  go_enter Tryz.func6, Tryz.ntmps6
  go_wp2_with fail
  clear hmk
  go_loopg [4] (l.length + 64) (fun g i wr => ∃ k : Nat, k ≤ l.length + 64 ∧ g = l.length + 64 - k ∧ i = .int .i64 k ∧ Below w.heap.size w wr ∧
    ∃ f, wr.rowIs w.heap.size 28 ((l.length + 64) * 7) f ∧ Hid (∀ j, j < k * 7 → f j = (nds (wholeN l)).getD j default))
  case atStart =>
    refine ⟨0, by omega, rfl, rfl, bal (Below.refl _ _) _, fun j => C.getD j default, ?_, Lib.hid fun j hj => by omega⟩
    rw [← HC.out]
    exact World.rowIs_alloc _ _ _ _ fun i hi => by simp [hi]
  case round =>
    obtain ⟨k, hk, rfl, rfl, hb, f, hf, HF⟩ := hrel
    by_cases h1 : k < l.length + 64
    · by_cases h2 : k < l.length
      · obtain ⟨s, hs⟩ : ∃ s, l[k]? = some s := ⟨_, List.getElem?_eq_getElem h2⟩
        have hA' := hA.below hb
        obtain ⟨bb, o, rfl, hbb, c0, c1, c2, c3, c4, c5, c6⟩ := hA'.node hs
        have hth : wr.there w.heap.size (k * 7) s.vs.toArray.size := row_there hf (k * 7) 7 (by omega)
        have hon := all_oneCell_toArray (nd_one s)
        have hin : (Tryz.prog.info? 28).map (·.size) = some s.vs.toArray.size := hin7
        go_wp2_with (with_reducible refine wpList_store_mid rfl 28 (.tmp 25) (.tmp 24) rfl w.heap.size (k * 7) s.vs.toArray ?_ ?_ hth hin hon ?_)
        · rfl
        · rfl
        go_roundg (l.length + 64 - (k + 1))
        case measure => omega
        case rel => exact ⟨k + 1, by omega, rfl, by go_num, below_setCellsC (Nat.le_refl _) _ _ _ hb, _, _root_.Go.rowIs_setCells _ _ _ _ hf, Lib.hid (wholeN_step HF.out (by rw [wholeN_lo h2]; exact hs))⟩
      · have h2' : l.length ≤ k := by omega
        have hth : wr.there w.heap.size (k * 7) (markC k).vs.toArray.size := row_there hf (k * 7) 7 (by omega)
        have hon := all_oneCell_toArray (nd_one (markC k))
        have hin : (Tryz.prog.info? 28).map (·.size) = some (markC k).vs.toArray.size := hin7
        have hnum := fun W => num_any 9 k W (by omega) (by omega) (by omega) (by omega)
        go_wp2_with fail
        refine (hnum _).mono ?_
        rintro e w' ⟨rfl, rfl⟩
        go_wp2_with (with_reducible refine wpList_store_mid rfl 28 (.tmp 31) (.tmp 30) rfl w.heap.size (k * 7) (markC k).vs.toArray ?_ ?_ hth hin hon ?_)
        · rfl
        · rfl
        go_roundg (l.length + 64 - (k + 1))
        case measure => omega
        case rel => exact ⟨k + 1, by omega, rfl, by go_num, below_setCellsC (Nat.le_refl _) _ _ _ hb, _, _root_.Go.rowIs_setCells _ _ _ _ hf, Lib.hid (wholeN_step HF.out (wholeN_hi h2' h1))⟩
    · go_wp2_with fail
      go_ret
      exact ⟨rfl, hf.congr fun j hj => HF.out j (by omega), hb⟩

theorem wholeN_sl {W : World} {l : List Nd} {g : Nat} (h : W.rowIs g 28 ((l.length + 64) * 7) (fun j => (nds (wholeN l)).getD j default)) : LN W (some ⟨g, 0, none⟩) (wholeN l) := by
  refine ⟨nds_len _, .inr ⟨g, 0, rfl, h.lt, fun j u hu => ?_⟩⟩
  have hj : j < (l.length + 64) * 7 := by have := (List.getElem?_eq_some_iff.1 hu).1; rw [nds_len, wholeN_len] at this; exact this
  rw [Nat.zero_add, h.cell hj, List.getD_eq_getElem?_getD, hu]; rfl
theorem wideN_sl {W : World} {l : List Nd} {g : Nat} (h : W.rowIs g 28 ((l.length + 64) * 7) (fun j => (nds (wholeN l)).getD j default)) : LN W (some ⟨g, 0, none⟩) l := by
  refine ⟨nds_len _, .inr ⟨g, 0, rfl, h.lt, fun j u hu => ?_⟩⟩
  have hj : j < l.length * 7 := by have := (List.getElem?_eq_some_iff.1 hu).1; rw [nds_len] at this; exact this
  have : (nds (wholeN l))[j]? = some u := by
    unfold wholeN nds; rw [List.flatMap_append, List.getElem?_append_left (by show j < (nds l).length; rw [nds_len]; exact hj)]; exact hu
  rw [Nat.zero_add, h.cell (by omega), List.getD_eq_getElem?_getD, this]; rfl

theorem spareCos_any (l : List Nd) (g : Nat) (w : World) (hl : l.length ≤ 16384) (hA : LN w (some ⟨g, 0, none⟩) (wholeN l)) :
    Calls Tryz.prog 15 #[.slice (some ⟨g, 0, none⟩) l.length (l.length + 64)] w fun e w' => e = .returned (.bool true) ∧ Below w.heap.size w w' := by
  have HA : ∀ W, Below w.heap.size w W → LN W (some ⟨g, 0, none⟩) (wholeN l) := fun W h => hA.below h
  clear hA
  go_enter Tryz.func15, Tryz.ntmps15
  go_wp2_with fail
  go_loopg [4] 64 (fun q i wr => ∃ k : Nat, l.length ≤ k ∧ k ≤ l.length + 64 ∧ q = l.length + 64 - k ∧ i = .int .i64 k ∧ Below w.heap.size w wr)
  case atStart => exact ⟨l.length, by omega, by omega, by omega, rfl, Below.refl _ _⟩
  case round =>
    obtain ⟨k, hk0, hk, rfl, rfl, hb⟩ := hrel
    by_cases h1 : k < l.length + 64
    · obtain ⟨bb, o, he, hbb, c0, c1, c2, c3, c4, c5, c6⟩ := (HA _ hb).node (wholeN_hi hk0 h1)
      injection he with he
      injection he with he1 he2 _
      subst he1 he2
      have hnum := fun W => num_any 9 k W (by omega) (by omega) (by omega) (by omega)
      have hnum2 := fun W => (hnum W).mono (fun e w' h => And.intro h.1 h.2.symm)
      unfold markC at c0 c1 c2 c3 c4 c5 c6
      simp only [Nat.zero_add] at c0 c1 c2 c3 c4 c5 c6
      go_wp2_with fail
      go_quiet ((go_at_call 18; refine Calls.quiet_of_same (hnum2 _)))
      go_wp2_with fail
      go_roundg (l.length + 64 - (k + 1))
      case measure => omega
      case rel => exact ⟨k + 1, by omega, by omega, rfl, by go_num, bdr (bal hb _) _⟩
    · go_wp2_with fail
      go_ret
      exact ⟨rfl, hb⟩

theorem long_any (l : List Nd) (A : Option Addr) (c : Nat) (w : World) : Calls Tryz.prog 4 #[.slice A l.length c] w fun e w' => e = .returned (.bool (decide (16384 < (l.length : Int)))) ∧ w = w' := by
  go_enter Tryz.func4, Tryz.ntmps4
  go_wp2_with fail
  go_ret
  exact ⟨rfl, rfl⟩
end Go.Proofs.YtjklecncdinabaaGreatDoor.C
