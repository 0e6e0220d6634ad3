/- Contracts: coerce.tree, May, height, Height. -/
import Derived.Test.YtjklecncdinabaaGreatDoorCoC
namespace Go.Proofs.YtjklecncdinabaaGreatDoor.C
open Go.RowKit Go.Proofs.YtjklecncdinabaaGreatDoor.B
set_option linter.unusedVariables false
set_option linter.unusedSimpArgs false

def TreeQ (R : Option Co) (w : World) (e : Ending) (w' : World) : Prop := Below w.heap.size w w' ∧ match R with
  | none => ∃ v, e = .returned (.tuple #[v, .bool false])
  | some t => ∃ v, e = .returned (.tuple #[v, .bool true]) ∧ VCo w' (w.heap.size ≤ ·) t v

def wholeC : Option (Co × List Nd) → Option Co
  | some (t, []) => some t
  | _ => none
theorem treeC_whole (l : List Nd) : treeC l = wholeC (readC 64 l) := by
  unfold treeC wholeC
  rcases readC 64 l with _ | ⟨t, _ | ⟨x, r⟩⟩ <;> rfl

theorem tree_any (l : List Nd) (A : Option Addr) (c : Nat) (w : World) (hl : l.length ≤ c) (hc : c ≤ maxLen) (hA : LN w A l) :
    Calls Tryz.prog 22 #[.slice A l.length c] w fun e w' => TreeQ (treeC l) w e w' := by
  have h : Calls Tryz.prog 58 #[.slice A l.length c, .int .i64 1] w fun e w' => ReadQ w.heap.size (readC 64 l) w e w' := read_any 64 l A c 1 w.heap.size w (by omega) hl hc (Nat.le_refl _) hA
  rw [treeC_whole l]
  obtain ⟨R, hR⟩ : ∃ R, readC 64 l = R := ⟨_, rfl⟩
  rw [hR] at h ⊢
  obtain ⟨L, hL⟩ : ∃ L, l.length = L := ⟨_, rfl⟩
  rw [hL] at h ⊢
  clear hA hR hL hl hc
  go_enter Tryz.func22, Tryz.ntmps22
  go_wp2_with fail
  (refine h.mono ?_); rintro ev w1 ⟨hb, hq⟩
  clear h
  rcases R with _ | ⟨t, r⟩
  · simp only at hq
    subst hq
    go_wp2_with fail
    go_ret2
    exact ⟨hb, _, rfl⟩
  · obtain ⟨v, A3, c3, rfl, _, _, hv, _⟩ := hq
    obtain ⟨D, z, rfl⟩ := hv.face
    have HV := Lib.hid hv
    clear hv
    cases r with
    | nil =>
      go_wp2_with fail
      go_ret2
      exact ⟨hb, _, rfl, HV.out⟩
    | cons x r =>
      have hne : (((x :: r).length : Int) == 0) = false := by simp; omega
      obtain ⟨M, hM⟩ : ∃ M, (x :: r).length = M := ⟨_, rfl⟩
      rw [hM] at hne ⊢
      clear hM
      go_wp2_with fail
      go_ret2
      exact ⟨hb, _, rfl⟩

theorem may_any (l : List Nd) (A : Option Addr) (c : Nat) (w : World) (hl : l.length ≤ c) (hc : c ≤ maxLen) (hA : LN w A l) :
    Calls Tryz.prog 50 #[.slice A l.length c] w fun e w' => e = .returned (.bool (treeC l).isSome) ∧ Below w.heap.size w w' := by
  have h := tree_any l A c w hl hc hA
  generalize treeC l = R at *
  clear hA hl hc
  go_enter Tryz.func50, Tryz.ntmps50
  go_wp2_with fail
  (refine h.mono ?_); rintro ev w1 ⟨hb, hq⟩
  clear h
  rcases R with _ | t
  · obtain ⟨v, rfl⟩ := hq
    go_wp2_with fail
    go_ret
    exact ⟨rfl, hb⟩
  · obtain ⟨v, rfl, _⟩ := hq
    go_wp2_with fail
    go_ret
    exact ⟨rfl, hb⟩

/-! ### What a value of 'co' is asked to be -/
def zPart : Value := .agg #[.int .i64 0, .bool false, .int .u8 0, .slice none 0 0]
def zFail : Value := .agg #[.int .i64 0, .int .i64 0, .int .u8 0, .int .u8 0]
section
variable (v : Value) (w : World)
theorem tAP : (Instr.typeAssert (.iface 106 v) 69 100 true).run Tryz.prog w = .ok (.tuple #[zPart, .bool false]) w := by kernel_rfl
theorem tFP : (Instr.typeAssert (.iface 97 v) 69 100 true).run Tryz.prog w = .ok (.tuple #[zPart, .bool false]) w := by kernel_rfl
theorem tPP : (Instr.typeAssert (.iface 100 v) 69 100 true).run Tryz.prog w = .ok (.tuple #[v, .bool true]) w := by kernel_rfl
theorem tAF : (Instr.typeAssert (.iface 106 v) 69 97 true).run Tryz.prog w = .ok (.tuple #[zFail, .bool false]) w := by kernel_rfl
theorem tFF : (Instr.typeAssert (.iface 97 v) 69 97 true).run Tryz.prog w = .ok (.tuple #[v, .bool true]) w := by kernel_rfl
theorem tPF : (Instr.typeAssert (.iface 100 v) 69 97 true).run Tryz.prog w = .ok (.tuple #[zFail, .bool false]) w := by kernel_rfl
theorem tAA : (Instr.typeAssert (.iface 106 v) 69 106 true).run Tryz.prog w = .ok (.tuple #[v, .bool true]) w := by kernel_rfl
theorem tFA : (Instr.typeAssert (.iface 97 v) 69 106 true).run Tryz.prog w = .ok (.tuple #[.agg #[], .bool false]) w := by kernel_rfl
theorem tPA : (Instr.typeAssert (.iface 100 v) 69 106 true).run Tryz.prog w = .ok (.tuple #[.agg #[], .bool false]) w := by kernel_rfl
end

/-- Kid j of a part in memory. -/
def kidT (a b : Co) (j : Nat) : Co := if j = 0 then a else b
theorem kid_at {w : World} {C : Nat → Prop} {n j : Nat} {A : Option Addr} {va vb : Value} {a b : Co} (hn : n ≤ 2) (hj : j < n) (h : Kd w C A ([va, vb].take n)) (ha : VCo w C a va) (hb : VCo w C b vb) :
    ∃ g o v, A = some ⟨g, o, none⟩ ∧ w.cell? ⟨g, o + j, none⟩ = some v ∧ g < w.heap.size ∧ VCo w C (kidT a b j) v := by
  rcases h with h | ⟨g, o, rfl, _, hc⟩
  · have := congrArg List.length h; simp at this; omega
  · rcases j with _ | j
    · have hx := hc 0 va (by rcases n with _ | n; omega; rfl)
      exact ⟨g, o, va, rfl, hx, lt_cell hx, ha⟩
    · obtain rfl : j = 0 := by omega
      have hx := hc 1 vb (by rcases n with _ | _ | n; omega; omega; rfl)
      exact ⟨g, o, vb, rfl, hx, lt_cell hx, hb⟩

def hiK (a b : Co) : Nat → Nat
  | 0 => 0
  | 1 => a.high
  | _ + 2 => max a.high b.high
theorem high_part (p : Int) (j : Bool) (h : Int) (a b : Co) : (Co.part p j h a b).high = hiK a b (opsN h) + 1 := by
  simp only [Co.high]
  rcases opsN_le h with h0 | h0 | h0 <;> rw [h0] <;> rfl
theorem hiK_next {a b : Co} {j : Nat} (hj : j < 2) : hiK a b (j + 1) = max (hiK a b j) (kidT a b j).high := by
  rcases j with _ | _ | j
  · simp [hiK, kidT]
  · simp [hiK, kidT]
  · omega
theorem hiK_le (a b : Co) (j : Nat) : hiK a b j ≤ max a.high b.high := by
  rcases j with _ | _ | j <;> simp only [hiK] <;> omega

/-- Height: 0 where there is no tree. -/
def highC (l : List Nd) : Nat := match treeC l with
  | none => 0
  | some t => t.high
end Go.Proofs.YtjklecncdinabaaGreatDoor.C
