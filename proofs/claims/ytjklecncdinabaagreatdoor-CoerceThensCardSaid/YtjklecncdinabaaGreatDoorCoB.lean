/- Contracts: coerce's small functions; CopyCos, EqCos. -/
import Derived.Test.YtjklecncdinabaaGreatDoorCoA
import Derived.Lib.Hide
namespace Go.Proofs.YtjklecncdinabaaGreatDoor.C
open Go.RowKit Go.Proofs.YtjklecncdinabaaGreatDoor.B
set_option linter.unusedVariables false
set_option linter.unusedSimpArgs false

theorem info_three {i : Option TypeInfo} {a : Option Value} {b c : Nat} (h : i.map (fun i => (i.zero, i.size, i.bytes)) = some (a, b, c)) : ∃ i0, i = some i0 ∧ i0.zero = a ∧ i0.size = b ∧ i0.bytes = c := by
  cases i with
  | none => cases h
  | some i0 =>
    simp only [Option.map_some, Option.some.injEq, Prod.mk.injEq] at h
    exact ⟨i0, rfl, h.1, h.2.1, h.2.2⟩
theorem infoCo : (Tryz.prog.info? 28).map (fun i => (i.zero, i.size, i.bytes)) = some (some (.agg #[.int .i8 0, .int .i64 0, .bool false, .int .u8 0, .int .i64 0, .int .u8 0, .int .u8 0]), 7, 40) := by kernel_rfl
theorem infoCoi : (Tryz.prog.info? 69).map (fun i => (i.zero, i.size, i.bytes)) = some (some .nilIface, 1, 16) := by kernel_rfl

theorem ops_any (h : Int) (w : World) : Calls Tryz.prog 62 #[.int .u8 h] w fun e w' => e = .returned (.tuple #[.int .i8 (opsO h), .int .i64 (opsN h : Nat)]) ∧ w = w' := by
  go_enter Tryz.func62, Tryz.ntmps62
  go_wp2
  all_goals
    go_ret2
    refine ⟨?_, rfl⟩
    unfold opsO opsN
    simp_all

theorem label_any (n : Int) (w : World) : Calls Tryz.prog 48 #[.int .i64 n] w fun e w' => e = .returned (.bool (lblB n)) ∧ w = w' := by
  go_enter Tryz.func48, Tryz.ntmps48
  go_wp2
  all_goals
    go_ret
    refine ⟨?_, rfl⟩
    unfold lblB
    simp_all
    try omega

theorem turned_any (h : Int) (i : Nat) (w : World) : Calls Tryz.prog 61 #[.int .u8 h, .int .i64 (i : Nat)] w fun e w' => e = .returned (.bool (turnd h i)) ∧ w = w' := by
  go_enter Tryz.func61, Tryz.ntmps61
  go_wp2
  all_goals
    go_ret
    refine ⟨?_, rfl⟩
    unfold turnd
    simp_all
    try (rw [Bool.eq_iff_iff]; simp; try omega)

theorem eqCos_any (l : List Nd) (A A' : Option Addr) (c c' : Nat) (w : World) (hl : l.length ≤ 4611686018427387904) (hA : LN w A l) (hA' : LN w A' l) :
    Calls Tryz.prog 12 #[.slice A l.length c, .slice A' l.length c'] w fun e w' => e = .returned (.bool true) ∧ Below w.heap.size w w' := by
  go_enter Tryz.func12, Tryz.ntmps12
  go_wp2_with fail
  go_loopg [5] l.length (fun g i wr => ∃ k : Nat, k ≤ l.length ∧ g = l.length - k ∧ i = .int .i64 k ∧ ∃ m, wr = w.drewN m)
  case atStart => exact ⟨0, by omega, rfl, rfl, 0, rfl⟩
  case round =>
    obtain ⟨k, hk, rfl, rfl, m, rfl⟩ := hrel
    by_cases h1 : k < l.length
    · obtain ⟨s, hs⟩ : ∃ s, l[k]? = some s := ⟨_, List.getElem?_eq_getElem h1⟩
      obtain ⟨bb, o, rfl, hbb, c0, c1, c2, c3, c4, c5, c6⟩ := hA.node hs
      obtain ⟨bb', o', rfl, hbb', d0, d1, d2, d3, d4, d5, d6⟩ := hA'.node hs
      go_wp2_with fail
      go_quiet (fail)
      go_wp2_with fail
      go_roundg (l.length - (k + 1))
      case measure => omega
      case rel => exact ⟨k + 1, by omega, rfl, by go_num, m + nq, rfl⟩
    · go_wp2_with fail
      go_ret
      exact ⟨rfl, below_drewN (Below.refl _ _) _⟩

/-! ### begins, ends -/
section
variable (w : World)
theorem mBgA : (Go.method 201 106 (.agg #[]) "culprit/coerce.begins").run Tryz.prog w = .ok (126, .agg #[]) w := by kernel_rfl
theorem mEdA : (Go.method 201 106 (.agg #[]) "culprit/coerce.ends").run Tryz.prog w = .ok (127, .agg #[]) w := by kernel_rfl
theorem mBgF (p l f t : Int) : (Go.method 201 97 (.agg #[.int .i64 p, .int .i64 l, .int .u8 f, .int .u8 t]) "culprit/coerce.begins").run Tryz.prog w = .ok (59, .agg #[.int .i64 p, .int .i64 l, .int .u8 f, .int .u8 t]) w := by kernel_rfl
theorem mEdF (p l f t : Int) : (Go.method 201 97 (.agg #[.int .i64 p, .int .i64 l, .int .u8 f, .int .u8 t]) "culprit/coerce.ends").run Tryz.prog w = .ok (124, .agg #[.int .i64 p, .int .i64 l, .int .u8 f, .int .u8 t]) w := by kernel_rfl
theorem mBgP (p : Int) (j : Bool) (h : Int) (A : Option Addr) (n c : Nat) : (Go.method 201 100 (.agg #[.int .i64 p, .bool j, .int .u8 h, .slice A n c]) "culprit/coerce.begins").run Tryz.prog w = .ok (60, .agg #[.int .i64 p, .bool j, .int .u8 h, .slice A n c]) w := by kernel_rfl
theorem mEdP (p : Int) (j : Bool) (h : Int) (A : Option Addr) (n c : Nat) : (Go.method 201 100 (.agg #[.int .i64 p, .bool j, .int .u8 h, .slice A n c]) "culprit/coerce.ends").run Tryz.prog w = .ok (125, .agg #[.int .i64 p, .bool j, .int .u8 h, .slice A n c]) w := by kernel_rfl

theorem cBgA : Calls Tryz.prog 126 #[.agg #[]] w fun e w' => e = .returned (.bool true) ∧ Below w.heap.size w w' := by
  go_enter Tryz.func126, Tryz.ntmps126
  go_wp2_with fail
  go_ret
  exact ⟨rfl, bal b0 _⟩
theorem cEdA : Calls Tryz.prog 127 #[.agg #[]] w fun e w' => e = .returned (.bool true) ∧ Below w.heap.size w w' := by
  go_enter Tryz.func127, Tryz.ntmps127
  go_wp2_with fail
  go_ret
  exact ⟨rfl, bal b0 _⟩
theorem cBgF (p l f t : Int) : Calls Tryz.prog 59 #[.agg #[.int .i64 p, .int .i64 l, .int .u8 f, .int .u8 t]] w fun e w' => e = .returned (.bool (p != 0)) ∧ Below w.heap.size w w' := by
  go_enter Tryz.func59, Tryz.ntmps59
  go_wp2_with fail
  go_ret
  exact ⟨rfl, bal b0 _⟩
theorem cEdF (p l f t : Int) : Calls Tryz.prog 124 #[.agg #[.int .i64 p, .int .i64 l, .int .u8 f, .int .u8 t]] w fun e w' => e = .returned (.bool true) ∧ Below w.heap.size w w' := by
  go_enter Tryz.func124, Tryz.ntmps124
  go_wp2_with fail
  go_ret
  exact ⟨rfl, bal b0 _⟩
theorem cBgP (p : Int) (j : Bool) (h : Int) (A : Option Addr) (n c : Nat) : Calls Tryz.prog 60 #[.agg #[.int .i64 p, .bool j, .int .u8 h, .slice A n c]] w fun e w' => e = .returned (.bool (p != 0)) ∧ Below w.heap.size w w' := by
  go_enter Tryz.func60, Tryz.ntmps60
  go_wp2_with fail
  go_ret
  exact ⟨rfl, bal b0 _⟩
theorem cEdP (p : Int) (j : Bool) (h : Int) (A : Option Addr) (n c : Nat) : Calls Tryz.prog 125 #[.agg #[.int .i64 p, .bool j, .int .u8 h, .slice A n c]] w fun e w' => e = .returned (.bool j) ∧ Below w.heap.size w w' := by
  go_enter Tryz.func125, Tryz.ntmps125
  go_wp2_with fail
  go_ret
  exact ⟨rfl, bal b0 _⟩
end
end Go.Proofs.YtjklecncdinabaaGreatDoor.C
