/- Contracts: label.Text and the reference's Text: the same words. -/
import Derived.Test.YthonnpjlkcjoeaaDoorLabelR
import Derived.Test.YthonnpjlkcjoeaaDoorShelf
import Derived.Lib.ItoaLen
import Derived.Lib.AppendIntMem
import Derived.Deep.RegionHeld3
import Derived.Deep.Cut
import Derived.Deep.CutRange
import Derived.Deep.DeepCutAuto
namespace Go.Proofs.YthonnpjlkcjoeaaDoor.La
open Go.RowKit Go.Proofs.YthonnpjlkcjoeaaDoor.B
set_option linter.unusedSimpArgs false
set_option linter.unusedVariables false

/-- The table that Itoa reads stands. -/
abbrev Tab (w : World) : Prop := Lib.TabBelow Tryd.prog w.heap.size w "internal/strconv.uint64pow10" .u64 Lib.pow10Tab

def itoaS (n : Int) : ByteArray := ⟨(Lib.itoa n).toArray⟩
theorem itoaS_size (n : Int) (h0 : -9223372036854775808 ≤ n) (h1 : n ≤ 9223372036854775807) : (itoaS n).size ≤ 21 := by
  have := Lib.itoa_length_le n h0 h1
  simpa [itoaS, ByteArray.size] using this

theorem itoa_any (n : Int) (w W : World) (h0 : -9223372036854775808 ≤ n) (h1 : n ≤ 9223372036854775807) (ht : Tab w) (hb : Below w.heap.size w W) :
    Calls Tryd.prog 45 #[.int .i64 n] W fun e w' => e = .returned (.string (itoaS n)) ∧ Below W.heap.size W w' :=
  (Tryd.strconv_Itoa n h0 h1 W (ht W hb)).mono fun e w' ⟨h, k, os, hw⟩ => ⟨h, by rw [hw]; exact Lib.below_grow _ W (Nat.le_refl _) k os⟩

def wordS (r : Int) : ByteArray := if 1 ≤ r ∧ r ≤ 18 then word r.toNat else itoaS r

/-- The cells of a site's own box. -/
def Box (g : Nat) (mo ex : ByteArray) (li co r : Int) (W : World) : Prop :=
  W.cell? ⟨g, 0, none⟩ = some (.string mo) ∧ W.cell? ⟨g, 1, none⟩ = some (.string ex) ∧ W.cell? ⟨g, 2, none⟩ = some (.int .i64 li) ∧ W.cell? ⟨g, 3, none⟩ = some (.int .i64 co) ∧ W.cell? ⟨g, 4, none⟩ = some (.int .i64 r)
theorem Box.new (W : World) (mo ex : ByteArray) (li co r : Int) : Box W.heap.size mo ex li co r (W.alloc (.cells #[.string mo, .string ex, .int .i64 li, .int .i64 co, .int .i64 r] 31)) := by
  refine ⟨?_, ?_, ?_, ?_, ?_⟩ <;> simp
theorem Box.keep {g : Nat} {mo ex : ByteArray} {li co r : Int} {W W' : World} (h : Box g mo ex li co r W) (hb : Below W.heap.size W W') : Box g mo ex li co r W' := by
  have hg := World.block_lt_of_cell? W _ h.1
  obtain ⟨h0, h1, h2, h3, h4⟩ := h
  exact ⟨(hb.cell (p := ⟨g, 0, none⟩) hg).trans h0, (hb.cell (p := ⟨g, 1, none⟩) hg).trans h1, (hb.cell (p := ⟨g, 2, none⟩) hg).trans h2, (hb.cell (p := ⟨g, 3, none⟩) hg).trans h3, (hb.cell (p := ⟨g, 4, none⟩) hg).trans h4⟩

theorem add_ok {P : Program} (a b : ByteArray) (w : World) (ha : a.size ≤ 4611686018427387904) (hb : b.size ≤ 1048576) : (Op.stringOp .add a b).run P w = .ok (.string (a ++ b)) w := run_string_add_sum w a b (by omega)

/-- What Text tells, its side and its border behind the rest. -/
def textE (u mo ex : ByteArray) (i : Bool) (r : Int) : ByteArray :=
  if r == 18 then (u ++ if i then ⟨#[32, 105, 110, 115, 105, 100, 101]⟩ else ⟨#[32, 99, 111, 110, 116, 101, 120, 116]⟩) ++ (⟨#[32, 102, 114, 111, 109, 32]⟩ ++ ex ++ ⟨#[32, 116, 111, 32]⟩ ++ mo)
  else u ++ if i then ⟨#[32, 105, 110, 115, 105, 100, 101]⟩ else ⟨#[32, 99, 111, 110, 116, 101, 120, 116]⟩
def textS (nm d1 d2 wd mo ex : ByteArray) (i : Bool) (r : Int) : ByteArray := textE (nm ++ ⟨#[32, 97, 116, 32]⟩ ++ d1 ++ ⟨#[58]⟩ ++ d2 ++ ⟨#[32]⟩ ++ wd) mo ex i r

set_option maxRecDepth 100000 in
set_option maxHeartbeats 1000000 in
theorem text_core (A : Option Addr) (len c : Nat) (mo ex d1 d2 wd0 wd nm : ByteArray) (li co r n b : Int) (i bb : Bool) (w : World)
    (ho : Calls Tryd.prog 12 #[.slice A len c, .int .i64 b] w fun e w' => e = .returned (.tuple #[.agg #[.string mo, .string ex, .int .i64 li, .int .i64 co, .int .i64 r], .int .i64 0]) ∧ Below w.heap.size w w')
    (hS : ∀ W, Calls Tryd.prog 10 #[.int .i64 b] W fun e w' => e = .returned (.tuple #[.int .i64 n, .bool i]) ∧ W = w')
    (hr : ∀ W, Calls Tryd.prog 20 #[.int .i64 r] W fun e w' => e = .returned (.string wd0) ∧ Below W.heap.size W w')
    (hn : ∀ W, Calls Tryd.prog 44 #[.agg #[.string mo, .string ex, .int .i64 li, .int .i64 co, .int .i64 r], .bool i] W fun e w' => e = .returned (.string nm) ∧ Below W.heap.size W w')
    (i1 : ∀ W, Below w.heap.size w W → Calls Tryd.prog 45 #[.int .i64 li] W fun e w' => e = .returned (.string d1) ∧ Below W.heap.size W w')
    (i2 : ∀ W, Below w.heap.size w W → Calls Tryd.prog 45 #[.int .i64 co] W fun e w' => e = .returned (.string d2) ∧ Below W.heap.size W w')
    (i3 : bb = true → ∀ W, Below w.heap.size w W → Calls Tryd.prog 45 #[.int .i64 r] W fun e w' => e = .returned (.string wd) ∧ Below W.heap.size W w')
    (hbb : wd0.toList.isEmpty = bb) (hw : bb = false → wd0 = wd)
    (z1 : nm.size ≤ 1048576) (z2 : d1.size ≤ 21) (z3 : d2.size ≤ 21) (z4 : wd.size ≤ 21) (z5 : mo.size ≤ 1048576) (z6 : ex.size ≤ 1048576) :
    Calls Tryd.prog 16 #[.slice A len c, .int .i64 b] w fun e w' => e = .returned (.tuple #[.string (textS nm d1 d2 wd mo ex i r), .int .i64 0]) ∧ Below w.heap.size w w' := by
  have A1 := fun W => add_ok (P := Tryd.prog) nm ⟨#[32, 97, 116, 32]⟩ W (by omega) (by decide)
  have q1 : (nm ++ ⟨#[32, 97, 116, 32]⟩).size ≤ 1048580 := by rw [ByteArray.size_append]; show nm.size + 4 ≤ _; omega
  have A2 := fun W => add_ok (P := Tryd.prog) (nm ++ ⟨#[32, 97, 116, 32]⟩) d1 W (by omega) (by omega)
  have q2 : (nm ++ ⟨#[32, 97, 116, 32]⟩ ++ d1).size ≤ 1048604 := by rw [ByteArray.size_append]; omega
  have A3 := fun W => add_ok (P := Tryd.prog) (nm ++ ⟨#[32, 97, 116, 32]⟩ ++ d1) ⟨#[58]⟩ W (by omega) (by decide)
  have q3 : (nm ++ ⟨#[32, 97, 116, 32]⟩ ++ d1 ++ ⟨#[58]⟩).size ≤ 1048605 := by rw [ByteArray.size_append]; show (nm ++ ⟨#[32, 97, 116, 32]⟩ ++ d1).size + 1 ≤ _; omega
  have A4 := fun W => add_ok (P := Tryd.prog) (nm ++ ⟨#[32, 97, 116, 32]⟩ ++ d1 ++ ⟨#[58]⟩) d2 W (by omega) (by omega)
  have q4 : (nm ++ ⟨#[32, 97, 116, 32]⟩ ++ d1 ++ ⟨#[58]⟩ ++ d2).size ≤ 1048630 := by rw [ByteArray.size_append]; omega
  have A5 := fun W => add_ok (P := Tryd.prog) (nm ++ ⟨#[32, 97, 116, 32]⟩ ++ d1 ++ ⟨#[58]⟩ ++ d2) ⟨#[32]⟩ W (by omega) (by decide)
  have q5 : (nm ++ ⟨#[32, 97, 116, 32]⟩ ++ d1 ++ ⟨#[58]⟩ ++ d2 ++ ⟨#[32]⟩).size ≤ 1048631 := by rw [ByteArray.size_append]; show (nm ++ ⟨#[32, 97, 116, 32]⟩ ++ d1 ++ ⟨#[58]⟩ ++ d2).size + 1 ≤ _; omega
  have A6 := fun W => add_ok (P := Tryd.prog) (nm ++ ⟨#[32, 97, 116, 32]⟩ ++ d1 ++ ⟨#[58]⟩ ++ d2 ++ ⟨#[32]⟩) wd W (by omega) (by omega)
  have q6 : (nm ++ ⟨#[32, 97, 116, 32]⟩ ++ d1 ++ ⟨#[58]⟩ ++ d2 ++ ⟨#[32]⟩ ++ wd).size ≤ 1048660 := by rw [ByteArray.size_append]; omega
  have I1 := Lib.hid i1
  have I2 := Lib.hid i2
  have I3 := Lib.hid i3
  have HN := Lib.hid hn
  have HW := Lib.hid hw
  clear i1 i2 i3 hn hw
  go_enter Tryd.func16, Tryd.ntmps16
  go_wp2_with fail
  refine ho.mono ?_
  rintro e w1 ⟨rfl, hb1⟩
  clear ho
  go_wp2_with fail
  refine (hS _).mono ?_
  rintro e w' ⟨rfl, rfl⟩
  clear hS
  obtain ⟨g, hg⟩ : ∃ g, w1.heap.size = g := ⟨_, rfl⟩
  have hbx := Box.new w1 mo ex li co r
  have hb2 := bal hb1 (.cells #[.string mo, .string ex, .int .i64 li, .int .i64 co, .int .i64 r] 31)
  rw [hg] at hbx ⊢
  obtain ⟨W2, hW2⟩ : ∃ W2, w1.alloc (.cells #[.string mo, .string ex, .int .i64 li, .int .i64 co, .int .i64 r] 31) = W2 := ⟨_, rfl⟩
  rw [hW2] at hbx hb2 ⊢
  clear hW2 hg
  obtain ⟨c0, c1, c2, c3, c4⟩ := id hbx
  go_wp2_with fail
  refine (hr _).mono ?_
  rintro e w3 ⟨rfl, hb3⟩
  have hb4 := bl hb2 hb3
  have hbx4 := hbx.keep hb3
  clear hb3 hb2 hbx c0 c1 c2 c3 c4 hr
  obtain ⟨c0, c1, c2, c3, c4⟩ := id hbx4
  go_upto_if 30 with fail
  go_cut [10, 30] from 31 to 33 (fun v z wx => v = .string wd ∧ Below w.heap.size w wx ∧ Box g mo ex li co r wx)
  case first =>
    cases bb
    · go_wp2_with fail
      go_meet
      case rel => exact ⟨by rw [HW.out trivial], hb4, hbx4⟩
    · go_wp2_with fail
      refine (I3.out (by first | rfl | trivial) _ hb4).mono ?_
      rintro e w5 ⟨rfl, hb5⟩
      go_wp2_with fail
      go_meet
      case rel => exact ⟨rfl, bl hb4 hb5, hbx4.keep hb5⟩
  case rest =>
    obtain ⟨rfl, hb, hbx⟩ := hcut
    clear hb4 hbx4 c0 c1 c2 c3 c4
    obtain ⟨c0, c1, c2, c3, c4⟩ := id hbx
    go_upto_region 8 with fail
    go_region_held3 (fun w' => Below w.heap.size w w' ∧ Box g mo ex li co r w' ∧ w'.cell? ⟨g, 0, none⟩ = some (.string mo) ∧ w'.cell? ⟨g, 1, none⟩ = some (.string ex) ∧ w'.cell? ⟨g, 2, none⟩ = some (.int .i64 li) ∧ w'.cell? ⟨g, 3, none⟩ = some (.int .i64 co) ∧ w'.cell? ⟨g, 4, none⟩ = some (.int .i64 r))
      (first
        | exact ⟨hb.drew, hbx, c0, c1, c2, c3, c4⟩
        | go_keep
        | (go_split_ands; exact ⟨bl (by assumption) (by assumption), Box.keep (by assumption) (by assumption), Box.keep (by assumption) (by assumption)⟩))
      ((first
        | (go_at_call 44; with_reducible refine (HN.out _).mono ?_; rintro e w6 ⟨rfl, hb6⟩)
        | (go_at_call 45; first | (with_reducible refine (I1.out _ (by first | assumption | exact bl hb hb6 | exact bl hb.drew hb6)).mono ?_; rintro e w7 ⟨rfl, hb7⟩) | (with_reducible refine (I2.out _ (by first | assumption | exact bl (bl hb hb6) hb7 | exact bl (bl hb.drew hb6) hb7)).mono ?_; rintro e w8 ⟨rfl, hb8⟩))))
    rename_i hHeld
    obtain ⟨hb9, hbx9, e0, e1, e2, e3, e4⟩ := hHeld
    clear I1 I2 I3 HN HW A1 A2 A3 A4 A5 A6 q1 q2 q3 q4 q5 hb6 hb7 hb8 hb hbx c0 c1 c2 c3 c4 hb1
    obtain ⟨u, hu⟩ : ∃ u, nm ++ ⟨#[32, 97, 116, 32]⟩ ++ d1 ++ ⟨#[58]⟩ ++ d2 ++ ⟨#[32]⟩ ++ wd = u := ⟨_, rfl⟩
    have ht : ∀ i, textS nm d1 d2 wd mo ex i r = textE u mo ex i r := fun i => by unfold textS; rw [hu]
    rw [hu] at q6
    have HT := Lib.hid ht
    clear ht
    have HU := Lib.hid hu
    rw [hu]
    clear hu
    have qi : (u ++ ⟨#[32, 105, 110, 115, 105, 100, 101]⟩).size ≤ 1048668 := by rw [ByteArray.size_append]; show u.size + 7 ≤ _; omega
    have qc : (u ++ ⟨#[32, 99, 111, 110, 116, 101, 120, 116]⟩).size ≤ 1048668 := by rw [ByteArray.size_append]; show u.size + 8 ≤ _; omega
    have Ai := fun W => add_ok (P := Tryd.prog) u ⟨#[32, 105, 110, 115, 105, 100, 101]⟩ W (by omega) (by decide)
    have Ac := fun W => add_ok (P := Tryd.prog) u ⟨#[32, 99, 111, 110, 116, 101, 120, 116]⟩ W (by omega) (by decide)
    have f1 : (⟨#[32, 102, 114, 111, 109, 32]⟩ ++ ex : ByteArray).size ≤ 1048582 := by rw [ByteArray.size_append]; show 6 + ex.size ≤ _; omega
    have f2 : (⟨#[32, 102, 114, 111, 109, 32]⟩ ++ ex ++ ⟨#[32, 116, 111, 32]⟩ : ByteArray).size ≤ 1048586 := by rw [ByteArray.size_append]; show (⟨#[32, 102, 114, 111, 109, 32]⟩ ++ ex : ByteArray).size + 4 ≤ _; omega
    have f3 : (⟨#[32, 102, 114, 111, 109, 32]⟩ ++ ex ++ ⟨#[32, 116, 111, 32]⟩ ++ mo : ByteArray).size ≤ 4194304 := by rw [ByteArray.size_append]; omega
    have B1 := fun W => run_string_add_sum (P := Tryd.prog) W ⟨#[32, 102, 114, 111, 109, 32]⟩ ex (by show 6 + ex.size ≤ _; omega)
    have B2 := fun W => run_string_add_sum (P := Tryd.prog) W (⟨#[32, 102, 114, 111, 109, 32]⟩ ++ ex) ⟨#[32, 116, 111, 32]⟩ (by show (⟨#[32, 102, 114, 111, 109, 32]⟩ ++ ex : ByteArray).size + 4 ≤ _; omega)
    have B3 := fun W => run_string_add_sum (P := Tryd.prog) W (⟨#[32, 102, 114, 111, 109, 32]⟩ ++ ex ++ ⟨#[32, 116, 111, 32]⟩) mo (by omega)
    have B4 := fun W => run_string_add_sum (P := Tryd.prog) W (u ++ ⟨#[32, 105, 110, 115, 105, 100, 101]⟩) (⟨#[32, 102, 114, 111, 109, 32]⟩ ++ ex ++ ⟨#[32, 116, 111, 32]⟩ ++ mo) (by omega)
    have B5 := fun W => run_string_add_sum (P := Tryd.prog) W (u ++ ⟨#[32, 99, 111, 110, 116, 101, 120, 116]⟩) (⟨#[32, 102, 114, 111, 109, 32]⟩ ++ ex ++ ⟨#[32, 116, 111, 32]⟩ ++ mo) (by omega)
    have hr18 : (r == 18) = true ∨ (r == 18) = false := by cases r == 18 <;> simp
    cases i <;> rcases hr18 with h18 | h18
    all_goals
      go_wp2_with fail
      go_ret2
      exact ⟨by rw [HT.out]; unfold textE; simp [h18], hb9⟩

/-- What the answer's Text tells, in its own brackets. -/
def textP (who d1 d2 wd side : ByteArray) : ByteArray := who ++ ⟨#[32, 97, 116, 32]⟩ ++ d1 ++ ⟨#[58]⟩ ++ d2 ++ ⟨#[32]⟩ ++ wd ++ ⟨#[32]⟩ ++ side
def sideW (i : Bool) : ByteArray := if i then ⟨#[105, 110, 115, 105, 100, 101]⟩ else ⟨#[99, 111, 110, 116, 101, 120, 116]⟩
theorem sideW_le (i : Bool) : (sideW i).size ≤ 7 := by cases i <;> decide
theorem textP_eq (nm d1 d2 wd mo ex : ByteArray) (i : Bool) (r : Int) (h : (r == 18) = false) : textP nm d1 d2 wd (sideW i) = textS nm d1 d2 wd mo ex i r := by
  unfold textP textS textE
  rw [h]
  have e : ∀ i, (⟨#[32]⟩ : ByteArray) ++ sideW i = if i then ⟨#[32, 105, 110, 115, 105, 100, 101]⟩ else ⟨#[32, 99, 111, 110, 116, 101, 120, 116]⟩ := fun i => by cases i <;> rfl
  simp only [Bool.false_eq_true, if_false]
  rw [ByteArray.append_assoc (b := ⟨#[32]⟩) (c := sideW i), e]
theorem textP_eq18 (nm d1 d2 wd mo ex : ByteArray) (i : Bool) (r : Int) (h : (r == 18) = true) : textP nm d1 d2 wd (sideW i) ++ ⟨#[32, 102, 114, 111, 109, 32]⟩ ++ ex ++ ⟨#[32, 116, 111, 32]⟩ ++ mo = textS nm d1 d2 wd mo ex i r := by
  have e := textP_eq nm d1 d2 wd mo ex i 0 rfl
  rw [e]
  unfold textS textE
  rw [h]
  simp only [Bool.false_eq_true, if_false, if_true, show ((0 : Int) == 18) = false from rfl, ByteArray.append_assoc]

set_option maxRecDepth 100000 in
set_option maxHeartbeats 2000000 in
theorem textR_core (A : Option Addr) (len c : Nat) (mo ex d1 d2 wd0 wd nm : ByteArray) (li co r n b : Int) (i bb : Bool) (w : World)
    (ho : Calls Tryd.prog 13 #[.slice A len c, .int .i64 b] w fun e w' => e = .returned (.tuple #[.agg #[.string mo, .string ex, .int .i64 li, .int .i64 co, .int .i64 r], .int .i64 0]) ∧ Below w.heap.size w w')
    (hS : ∀ W, Calls Tryd.prog 11 #[.int .i64 b] W fun e w' => e = .returned (.tuple #[.int .i64 n, .bool i]) ∧ W = w')
    (hr : ∀ W, Calls Tryd.prog 21 #[.int .i64 r] W fun e w' => e = .returned (.string wd0) ∧ Below W.heap.size W w')
    (hn : ∀ W, Below w.heap.size w W → Calls Tryd.prog 15 #[.slice A len c, .int .i64 b] W fun e w' => e = .returned (.tuple #[.string nm, .int .i64 0]) ∧ Below W.heap.size W w')
    (i1 : ∀ W, Below w.heap.size w W → Calls Tryd.prog 45 #[.int .i64 li] W fun e w' => e = .returned (.string d1) ∧ Below W.heap.size W w')
    (i2 : ∀ W, Below w.heap.size w W → Calls Tryd.prog 45 #[.int .i64 co] W fun e w' => e = .returned (.string d2) ∧ Below W.heap.size W w')
    (i3 : bb = true → ∀ W, Below w.heap.size w W → Calls Tryd.prog 45 #[.int .i64 r] W fun e w' => e = .returned (.string wd) ∧ Below W.heap.size W w')
    (hbb : wd0.toList.isEmpty = bb) (hw : bb = false → wd0 = wd)
    (z1 : nm.size ≤ 1048576) (z2 : d1.size ≤ 21) (z3 : d2.size ≤ 21) (z4 : wd.size ≤ 21) (z5 : mo.size ≤ 1048576) (z6 : ex.size ≤ 1048576) :
    Calls Tryd.prog 17 #[.slice A len c, .int .i64 b] w fun e w' => e = .returned (.tuple #[.string (textS nm d1 d2 wd mo ex i r), .int .i64 0]) ∧ Below w.heap.size w w' := by
  have z7 := sideW_le i
  have A1 := fun W => add_ok (P := Tryd.prog) nm ⟨#[32, 97, 116, 32]⟩ W (by omega) (by decide)
  have q1 : (nm ++ ⟨#[32, 97, 116, 32]⟩).size ≤ 1048580 := by rw [ByteArray.size_append]; show nm.size + 4 ≤ _; omega
  have A2 := fun W => add_ok (P := Tryd.prog) (nm ++ ⟨#[32, 97, 116, 32]⟩) d1 W (by omega) (by omega)
  have q2 : (nm ++ ⟨#[32, 97, 116, 32]⟩ ++ d1).size ≤ 1048604 := by rw [ByteArray.size_append]; omega
  have A3 := fun W => add_ok (P := Tryd.prog) (nm ++ ⟨#[32, 97, 116, 32]⟩ ++ d1) ⟨#[58]⟩ W (by omega) (by decide)
  have q3 : (nm ++ ⟨#[32, 97, 116, 32]⟩ ++ d1 ++ ⟨#[58]⟩).size ≤ 1048605 := by rw [ByteArray.size_append]; show (nm ++ ⟨#[32, 97, 116, 32]⟩ ++ d1).size + 1 ≤ _; omega
  have A4 := fun W => add_ok (P := Tryd.prog) (nm ++ ⟨#[32, 97, 116, 32]⟩ ++ d1 ++ ⟨#[58]⟩) d2 W (by omega) (by omega)
  have q4 : (nm ++ ⟨#[32, 97, 116, 32]⟩ ++ d1 ++ ⟨#[58]⟩ ++ d2).size ≤ 1048630 := by rw [ByteArray.size_append]; omega
  have A5 := fun W => add_ok (P := Tryd.prog) (nm ++ ⟨#[32, 97, 116, 32]⟩ ++ d1 ++ ⟨#[58]⟩ ++ d2) ⟨#[32]⟩ W (by omega) (by decide)
  have q5 : (nm ++ ⟨#[32, 97, 116, 32]⟩ ++ d1 ++ ⟨#[58]⟩ ++ d2 ++ ⟨#[32]⟩).size ≤ 1048631 := by rw [ByteArray.size_append]; show (nm ++ ⟨#[32, 97, 116, 32]⟩ ++ d1 ++ ⟨#[58]⟩ ++ d2).size + 1 ≤ _; omega
  have A6 := fun W => add_ok (P := Tryd.prog) (nm ++ ⟨#[32, 97, 116, 32]⟩ ++ d1 ++ ⟨#[58]⟩ ++ d2 ++ ⟨#[32]⟩) wd W (by omega) (by omega)
  have q6 : (nm ++ ⟨#[32, 97, 116, 32]⟩ ++ d1 ++ ⟨#[58]⟩ ++ d2 ++ ⟨#[32]⟩ ++ wd).size ≤ 1048660 := by rw [ByteArray.size_append]; omega
  have A7 := fun W => add_ok (P := Tryd.prog) (nm ++ ⟨#[32, 97, 116, 32]⟩ ++ d1 ++ ⟨#[58]⟩ ++ d2 ++ ⟨#[32]⟩ ++ wd) ⟨#[32]⟩ W (by omega) (by decide)
  have q7 : (nm ++ ⟨#[32, 97, 116, 32]⟩ ++ d1 ++ ⟨#[58]⟩ ++ d2 ++ ⟨#[32]⟩ ++ wd ++ ⟨#[32]⟩).size ≤ 1048661 := by rw [ByteArray.size_append]; show (nm ++ ⟨#[32, 97, 116, 32]⟩ ++ d1 ++ ⟨#[58]⟩ ++ d2 ++ ⟨#[32]⟩ ++ wd).size + 1 ≤ _; omega
  obtain ⟨sd, hsd⟩ : ∃ sd, sideW i = sd := ⟨_, rfl⟩
  have T1 := textP_eq nm d1 d2 wd mo ex i r
  have T2 := textP_eq18 nm d1 d2 wd mo ex i r
  rw [hsd] at z7 T1 T2
  have A8 := fun W => add_ok (P := Tryd.prog) (nm ++ ⟨#[32, 97, 116, 32]⟩ ++ d1 ++ ⟨#[58]⟩ ++ d2 ++ ⟨#[32]⟩ ++ wd ++ ⟨#[32]⟩) sd W (by omega) (by omega)
  have q8 : (nm ++ ⟨#[32, 97, 116, 32]⟩ ++ d1 ++ ⟨#[58]⟩ ++ d2 ++ ⟨#[32]⟩ ++ wd ++ ⟨#[32]⟩ ++ sd).size ≤ 1048670 := by rw [ByteArray.size_append]; omega
  have HT1 := Lib.hid T1
  have HT2 := Lib.hid T2
  have HSD := Lib.hid hsd
  have I1 := Lib.hid i1
  have I2 := Lib.hid i2
  have I3 := Lib.hid i3
  have HN := Lib.hid hn
  have HW := Lib.hid hw
  clear i1 i2 i3 hn hw T1 T2 hsd
  go_enter Tryd.func17, Tryd.ntmps17
  go_wp2_with fail
  refine ho.mono ?_
  rintro e w1 ⟨rfl, hb1⟩
  clear ho
  obtain ⟨g, hg⟩ : ∃ g, w1.heap.size = g := ⟨_, rfl⟩
  have hbx := Box.new w1 mo ex li co r
  have hb2 := bal hb1 (.cells #[.string mo, .string ex, .int .i64 li, .int .i64 co, .int .i64 r] 31)
  rw [hg] at hbx
  obtain ⟨W2, hW2⟩ : ∃ W2, w1.alloc (.cells #[.string mo, .string ex, .int .i64 li, .int .i64 co, .int .i64 r] 31) = W2 := ⟨_, rfl⟩
  rw [hW2] at hbx hb2
  go_wp2_with fail
  clear hW2 hg
  refine (HN.out _ hb2).mono ?_
  rintro e w3 ⟨rfl, hb3⟩
  have hb4 := bl hb2 hb3
  have hbx4 := hbx.keep hb3
  clear hb3 hb2 hbx
  obtain ⟨c0, c1, c2, c3, c4⟩ := id hbx4
  go_wp2_with fail
  refine (hr _).mono ?_
  rintro e w5 ⟨rfl, hb5⟩
  have hb6 := bl hb4 hb5
  have hbx6 := hbx4.keep hb5
  clear hb5 hb4 hbx4 c0 c1 c2 c3 c4 hr
  obtain ⟨c0, c1, c2, c3, c4⟩ := id hbx6
  go_upto_if 34 with fail
  go_cut [10, 34] from 35 to 37 (fun v z wx => v = .string wd ∧ Below w.heap.size w wx ∧ Box g mo ex li co r wx)
  case first =>
    cases bb
    · go_wp2_with fail
      go_meet
      case rel => exact ⟨by rw [HW.out trivial], hb6, hbx6⟩
    · go_wp2_with fail
      refine (I3.out (by first | rfl | trivial) _ hb6).mono ?_
      rintro e w7 ⟨rfl, hb7⟩
      go_wp2_with fail
      go_meet
      case rel => exact ⟨rfl, bl hb6 hb7, hbx6.keep hb7⟩
  case rest =>
    obtain ⟨rfl, hb, hbx⟩ := hcut
    clear hb6 hbx6 c0 c1 c2 c3 c4
    obtain ⟨c0, c1, c2, c3, c4⟩ := id hbx
    go_wp2_with fail
    refine (hS _).mono ?_
    rintro e w' ⟨rfl, rfl⟩
    clear hS
    go_upto_if 43 with fail
    go_cut [11, 43] (fun v z wx => v = .string sd ∧ wx = wc)
    case first =>
      cases i
      all_goals
        go_wp2_with fail
        go_meet
        case rel => exact ⟨by rw [← HSD.out]; rfl, rfl⟩
    case rest =>
      obtain ⟨rfl, rfl⟩ := hcut
      go_upto_region 12 with fail
      go_region_held3 (fun w' => Below w.heap.size w w' ∧ Box g mo ex li co r w' ∧ w'.cell? ⟨g, 0, none⟩ = some (.string mo) ∧ w'.cell? ⟨g, 1, none⟩ = some (.string ex) ∧ w'.cell? ⟨g, 2, none⟩ = some (.int .i64 li) ∧ w'.cell? ⟨g, 3, none⟩ = some (.int .i64 co) ∧ w'.cell? ⟨g, 4, none⟩ = some (.int .i64 r))
        (first
          | exact ⟨hb.drew, hbx, c0, c1, c2, c3, c4⟩
          | go_keep
          | (go_split_ands; exact ⟨bl (by assumption) (by assumption), Box.keep (by assumption) (by assumption), Box.keep (by assumption) (by assumption)⟩))
        ((first
          | (go_at_call 45; first | (with_reducible refine (I1.out _ (by first | assumption | exact hb.drew)).mono ?_; rintro e w7 ⟨rfl, hb7⟩) | (with_reducible refine (I2.out _ (by first | assumption | exact bl hb hb7 | exact bl hb.drew hb7)).mono ?_; rintro e w8 ⟨rfl, hb8⟩))))
      rename_i hHeld
      obtain ⟨hb9, hbx9, e0, e1, e2, e3, e4⟩ := hHeld
      clear I1 I2 I3 HN HW A1 A2 A3 A4 A5 A6 A7 A8 q1 q2 q3 q4 q5 q6 q7 hb7 hb8 hb hbx c0 c1 c2 c3 c4 hb1
      obtain ⟨u, hu⟩ : ∃ u, nm ++ ⟨#[32, 97, 116, 32]⟩ ++ d1 ++ ⟨#[58]⟩ ++ d2 ++ ⟨#[32]⟩ ++ wd ++ ⟨#[32]⟩ ++ sd = u := ⟨_, rfl⟩
      have hu2 : textP nm d1 d2 wd sd = u := hu
      rw [hu2] at HT1 HT2
      rw [hu] at q8
      rw [hu]
      clear hu hu2
      have B1 := fun W => add_ok (P := Tryd.prog) u ⟨#[32, 102, 114, 111, 109, 32]⟩ W (by omega) (by decide)
      have f1 : (u ++ ⟨#[32, 102, 114, 111, 109, 32]⟩ : ByteArray).size ≤ 1048676 := by rw [ByteArray.size_append]; show u.size + 6 ≤ _; omega
      have B2 := fun W => add_ok (P := Tryd.prog) (u ++ ⟨#[32, 102, 114, 111, 109, 32]⟩) ex W (by omega) (by omega)
      have f2 : (u ++ ⟨#[32, 102, 114, 111, 109, 32]⟩ ++ ex : ByteArray).size ≤ 2097252 := by rw [ByteArray.size_append]; omega
      have B3 := fun W => add_ok (P := Tryd.prog) (u ++ ⟨#[32, 102, 114, 111, 109, 32]⟩ ++ ex) ⟨#[32, 116, 111, 32]⟩ W (by omega) (by decide)
      have f3 : (u ++ ⟨#[32, 102, 114, 111, 109, 32]⟩ ++ ex ++ ⟨#[32, 116, 111, 32]⟩ : ByteArray).size ≤ 2097256 := by rw [ByteArray.size_append]; show (u ++ ⟨#[32, 102, 114, 111, 109, 32]⟩ ++ ex).size + 4 ≤ _; omega
      have B4 := fun W => add_ok (P := Tryd.prog) (u ++ ⟨#[32, 102, 114, 111, 109, 32]⟩ ++ ex ++ ⟨#[32, 116, 111, 32]⟩) mo W (by omega) (by omega)
      have hr18 : (r == 18) = true ∨ (r == 18) = false := by cases r == 18 <;> simp
      rcases hr18 with h18 | h18
      · have hT := HT2.out h18
        have HT := Lib.hid hT
        clear hT
        go_wp2_with fail
        go_ret2
        exact ⟨by rw [← HT.out]; rfl, hb9⟩
      · have hT := HT1.out h18
        have HT := Lib.hid hT
        clear hT
        go_wp2_with fail
        go_ret2
        exact ⟨by rw [← HT.out]; rfl, hb9⟩
end Go.Proofs.YthonnpjlkcjoeaaDoor.La
