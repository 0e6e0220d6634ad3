/- Contracts: coerce's small functions; CopyCos, EqCos. -/
import Derived.Test.YtkebplifkkhhlaaDoorCoA
import Derived.Lib.Hide
namespace Go.Proofs.YtkebplifkkhhlaaDoor.C
open Go.RowKit Go.Proofs.YtkebplifkkhhlaaDoor.B
set_option linter.unusedVariables false
set_option linter.unusedSimpArgs false

theorem info_three {i : Option TypeInfo} {a : Option Value} {b c : Nat} (h : i.map (fun i => (i.zero, i.size, i.bytes)) = some (a, b, c)) : ∃ i0, i = some i0 ∧ i0.zero = a ∧ i0.size = b ∧ i0.bytes = c := by
  cases i with
  | none => cases h
  | some i0 =>
    simp only [Option.map_some, Option.some.injEq, Prod.mk.injEq] at h
    exact ⟨i0, rfl, h.1, h.2.1, h.2.2⟩
theorem infoCo : (Tryd.prog.info? 102).map (fun i => (i.zero, i.size, i.bytes)) = some (some (.agg #[.int .i8 0, .int .i64 0, .bool false, .int .u8 0, .int .i64 0, .int .u8 0, .int .u8 0]), 7, 40) := by kernel_rfl
theorem infoCoi : (Tryd.prog.info? 152).map (fun i => (i.zero, i.size, i.bytes)) = some (some .nilIface, 1, 16) := by kernel_rfl

theorem ops_any (h : Int) (w : World) : Calls Tryd.prog 132 #[.int .u8 h] w fun e w' => e = .returned (.tuple #[.int .i8 (opsO h), .int .i64 (opsN h : Nat)]) ∧ w = w' := by
  go_enter Tryd.func132, Tryd.ntmps132
  go_wp2
  all_goals
    go_ret2
    refine ⟨?_, rfl⟩
    unfold opsO opsN
    simp_all

theorem label_any (n : Int) (w : World) : Calls Tryd.prog 104 #[.int .i64 n] w fun e w' => e = .returned (.bool (lblB n)) ∧ w = w' := by
  go_enter Tryd.func104, Tryd.ntmps104
  go_wp2
  all_goals
    go_ret
    refine ⟨?_, rfl⟩
    unfold lblB
    simp_all
    try omega

theorem turned_any (h : Int) (i : Nat) (w : World) : Calls Tryd.prog 117 #[.int .u8 h, .int .i64 (i : Nat)] w fun e w' => e = .returned (.bool (turnd h i)) ∧ w = w' := by
  go_enter Tryd.func117, Tryd.ntmps117
  go_wp2
  all_goals
    go_ret
    refine ⟨?_, rfl⟩
    unfold turnd
    simp_all
    try (rw [Bool.eq_iff_iff]; simp; try omega)

theorem copyCos_any (l : List Nd) (A : Option Addr) (c : Nat) (w : World) (hl : l.length ≤ 16384) (hA : LN w A l) :
    Calls Tryd.prog 92 #[.slice A l.length c] w fun e w' => ∃ A' c', e = .returned (.slice A' l.length c') ∧ l.length ≤ c' ∧ c' ≤ maxLen ∧ LN w' A' l ∧ Below w.heap.size w w' := by
  obtain ⟨i0, hi0, hz0, hz1, hz2⟩ := info_three infoCo
  go_enter Tryd.func92, Tryd.ntmps92
  go_wp2_with (at_builtin; refine wpList_append_sl _ rfl (.tmp 4) (.tmp 5) _ rfl w.heap.size 102 i0 _ 7 40 Tryd.underlying93 hi0 hz0 hz1 hz2 rfl (by omega) (.slice none 0 0) 0 [] rfl (World.ownsRow_nil _ _ _ _) w.heap.size A l.length c (nds l) rfl hA (nds_one l) (by simp only [maxLen]; omega) (by omega) (Nat.le_refl _) ?_; intro v1 w1 hown hg hat)
  obtain ⟨A', c', hv, h1, h2, hsl⟩ := Sl.of_own hown
  simp only [Nat.zero_add, List.nil_append] at hv hsl h1
  rw [hv]
  go_ret
  exact ⟨A', c', rfl, h1, h2, hsl, (Below.refl _ _).grown hg (Nat.le_refl _) (by simp [Value.ownBlock])⟩

theorem eqCos_any (l : List Nd) (A A' : Option Addr) (c c' : Nat) (w : World) (hl : l.length ≤ 4611686018427387904) (hA : LN w A l) (hA' : LN w A' l) :
    Calls Tryd.prog 43 #[.slice A l.length c, .slice A' l.length c'] w fun e w' => e = .returned (.bool true) ∧ Below w.heap.size w w' := by
  go_enter Tryd.func43, Tryd.ntmps43
  go_wp2_with fail
  go_loopg [5] l.length (fun g i wr => ∃ k : Nat, k ≤ l.length ∧ g = l.length - k ∧ i = .int .i64 k ∧ ∃ m, wr = w.drewN m)
  case atStart => exact ⟨0, by omega, rfl, rfl, 0, rfl⟩
  case round =>
    obtain ⟨k, hk, rfl, rfl, m, rfl⟩ := hrel
    by_cases h1 : k < l.length
    · obtain ⟨s, hs⟩ : ∃ s, l[k]? = some s := ⟨_, List.getElem?_eq_getElem h1⟩
      obtain ⟨bb, o, rfl, hbb, c0, c1, c2, c3, c4, c5, c6⟩ := hA.node hs
      obtain ⟨bb', o', rfl, hbb', d0, d1, d2, d3, d4, d5, d6⟩ := hA'.node hs
      go_wp2_with fail
      go_quiet (fail)
      go_wp2_with fail
      go_roundg (l.length - (k + 1))
      case measure => omega
      case rel => exact ⟨k + 1, by omega, rfl, by go_num, m + nq, rfl⟩
    · go_wp2_with fail
      go_ret
      exact ⟨rfl, below_drewN (Below.refl _ _) _⟩

/-! ### begins, ends -/
section
variable (w : World)
theorem mBgA : (Go.method 410 250 (.agg #[]) "culprit/coerce.begins").run Tryd.prog w = .ok (205, .agg #[]) w := by kernel_rfl
theorem mEdA : (Go.method 410 250 (.agg #[]) "culprit/coerce.ends").run Tryd.prog w = .ok (206, .agg #[]) w := by kernel_rfl
theorem mBgF (p l f t : Int) : (Go.method 410 224 (.agg #[.int .i64 p, .int .i64 l, .int .u8 f, .int .u8 t]) "culprit/coerce.begins").run Tryd.prog w = .ok (115, .agg #[.int .i64 p, .int .i64 l, .int .u8 f, .int .u8 t]) w := by kernel_rfl
theorem mEdF (p l f t : Int) : (Go.method 410 224 (.agg #[.int .i64 p, .int .i64 l, .int .u8 f, .int .u8 t]) "culprit/coerce.ends").run Tryd.prog w = .ok (202, .agg #[.int .i64 p, .int .i64 l, .int .u8 f, .int .u8 t]) w := by kernel_rfl
theorem mBgP (p : Int) (j : Bool) (h : Int) (A : Option Addr) (n c : Nat) : (Go.method 410 227 (.agg #[.int .i64 p, .bool j, .int .u8 h, .slice A n c]) "culprit/coerce.begins").run Tryd.prog w = .ok (116, .agg #[.int .i64 p, .bool j, .int .u8 h, .slice A n c]) w := by kernel_rfl
theorem mEdP (p : Int) (j : Bool) (h : Int) (A : Option Addr) (n c : Nat) : (Go.method 410 227 (.agg #[.int .i64 p, .bool j, .int .u8 h, .slice A n c]) "culprit/coerce.ends").run Tryd.prog w = .ok (203, .agg #[.int .i64 p, .bool j, .int .u8 h, .slice A n c]) w := by kernel_rfl

theorem cBgA : Calls Tryd.prog 205 #[.agg #[]] w fun e w' => e = .returned (.bool true) ∧ Below w.heap.size w w' := by
  go_enter Tryd.func205, Tryd.ntmps205
  go_wp2_with fail
  go_ret
  exact ⟨rfl, bal b0 _⟩
theorem cEdA : Calls Tryd.prog 206 #[.agg #[]] w fun e w' => e = .returned (.bool true) ∧ Below w.heap.size w w' := by
  go_enter Tryd.func206, Tryd.ntmps206
  go_wp2_with fail
  go_ret
  exact ⟨rfl, bal b0 _⟩
theorem cBgF (p l f t : Int) : Calls Tryd.prog 115 #[.agg #[.int .i64 p, .int .i64 l, .int .u8 f, .int .u8 t]] w fun e w' => e = .returned (.bool (p != 0)) ∧ Below w.heap.size w w' := by
  go_enter Tryd.func115, Tryd.ntmps115
  go_wp2_with fail
  go_ret
  exact ⟨rfl, bal b0 _⟩
theorem cEdF (p l f t : Int) : Calls Tryd.prog 202 #[.agg #[.int .i64 p, .int .i64 l, .int .u8 f, .int .u8 t]] w fun e w' => e = .returned (.bool true) ∧ Below w.heap.size w w' := by
  go_enter Tryd.func202, Tryd.ntmps202
  go_wp2_with fail
  go_ret
  exact ⟨rfl, bal b0 _⟩
theorem cBgP (p : Int) (j : Bool) (h : Int) (A : Option Addr) (n c : Nat) : Calls Tryd.prog 116 #[.agg #[.int .i64 p, .bool j, .int .u8 h, .slice A n c]] w fun e w' => e = .returned (.bool (p != 0)) ∧ Below w.heap.size w w' := by
  go_enter Tryd.func116, Tryd.ntmps116
  go_wp2_with fail
  go_ret
  exact ⟨rfl, bal b0 _⟩
theorem cEdP (p : Int) (j : Bool) (h : Int) (A : Option Addr) (n c : Nat) : Calls Tryd.prog 203 #[.agg #[.int .i64 p, .bool j, .int .u8 h, .slice A n c]] w fun e w' => e = .returned (.bool j) ∧ Below w.heap.size w w' := by
  go_enter Tryd.func203, Tryd.ntmps203
  go_wp2_with fail
  go_ret
  exact ⟨rfl, bal b0 _⟩
end
end Go.Proofs.YtkebplifkkhhlaaDoor.C
