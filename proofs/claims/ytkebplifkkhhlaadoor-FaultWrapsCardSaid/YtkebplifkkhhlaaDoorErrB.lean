/- The program's errors: type assertions, methods; errors as data (printed by gen_errb.py). -/
import Derived.Test.YtkebplifkkhhlaaDoorErrA
import Derived.Test.YtkebplifkkhhlaaDoorSites
import Derived.Test.YtkebplifkkhhlaaDoorBlk
namespace Go.Proofs.YtkebplifkkhhlaaDoor.F
open Go.RowKit Go.Proofs.YtkebplifkkhhlaaDoor.B Go.Proofs.YtkebplifkkhhlaaDoor.La
set_option linter.unusedVariables false

theorem noAsB (v : Value) (xT : TypeId) (w : World) : (Instr.typeAssert (.iface 86 v) xT 190 true).run Tryd.prog w = .ok (.tuple #[.nilIface, .bool false]) w := run_typeAssert_lacksB Tryd.underlying190 (by kernel_rfl) (by kernel_rfl) v xT w
theorem noIsB (v : Value) (xT : TypeId) (w : World) : (Instr.typeAssert (.iface 86 v) xT 182 true).run Tryd.prog w = .ok (.tuple #[.nilIface, .bool false]) w := run_typeAssert_lacksB Tryd.underlying182 (by kernel_rfl) (by kernel_rfl) v xT w
theorem noUsB (v : Value) (xT : TypeId) (w : World) : (Instr.typeAssert (.iface 86 v) xT 185 true).run Tryd.prog w = .ok (.tuple #[.nilIface, .bool false]) w := run_typeAssert_lacksB Tryd.underlying185 (by kernel_rfl) (by kernel_rfl) v xT w
theorem hasUnB (v : Value) (xT : TypeId) (w : World) : (Instr.typeAssert (.iface 86 v) xT 176 true).run Tryd.prog w = .ok (.tuple #[.iface 86 v, .bool true]) w := run_typeAssert_hasB Tryd.underlying176 (by kernel_rfl) v xT w
theorem noAsF (v : Value) (xT : TypeId) (w : World) : (Instr.typeAssert (.iface 87 v) xT 190 true).run Tryd.prog w = .ok (.tuple #[.nilIface, .bool false]) w := run_typeAssert_lacksB Tryd.underlying190 (by kernel_rfl) (by kernel_rfl) v xT w
theorem noIsF (v : Value) (xT : TypeId) (w : World) : (Instr.typeAssert (.iface 87 v) xT 182 true).run Tryd.prog w = .ok (.tuple #[.nilIface, .bool false]) w := run_typeAssert_lacksB Tryd.underlying182 (by kernel_rfl) (by kernel_rfl) v xT w
theorem noUsF (v : Value) (xT : TypeId) (w : World) : (Instr.typeAssert (.iface 87 v) xT 185 true).run Tryd.prog w = .ok (.tuple #[.nilIface, .bool false]) w := run_typeAssert_lacksB Tryd.underlying185 (by kernel_rfl) (by kernel_rfl) v xT w
theorem hasUnF (v : Value) (xT : TypeId) (w : World) : (Instr.typeAssert (.iface 87 v) xT 176 true).run Tryd.prog w = .ok (.tuple #[.iface 87 v, .bool true]) w := run_typeAssert_hasB Tryd.underlying176 (by kernel_rfl) v xT w
theorem noAsI (v : Value) (xT : TypeId) (w : World) : (Instr.typeAssert (.iface 55 v) xT 190 true).run Tryd.prog w = .ok (.tuple #[.nilIface, .bool false]) w := run_typeAssert_lacksB Tryd.underlying190 (by kernel_rfl) (by kernel_rfl) v xT w
theorem noIsI (v : Value) (xT : TypeId) (w : World) : (Instr.typeAssert (.iface 55 v) xT 182 true).run Tryd.prog w = .ok (.tuple #[.nilIface, .bool false]) w := run_typeAssert_lacksB Tryd.underlying182 (by kernel_rfl) (by kernel_rfl) v xT w
theorem noUsI (v : Value) (xT : TypeId) (w : World) : (Instr.typeAssert (.iface 55 v) xT 185 true).run Tryd.prog w = .ok (.tuple #[.nilIface, .bool false]) w := run_typeAssert_lacksB Tryd.underlying185 (by kernel_rfl) (by kernel_rfl) v xT w
theorem hasUnI (v : Value) (xT : TypeId) (w : World) : (Instr.typeAssert (.iface 55 v) xT 176 true).run Tryd.prog w = .ok (.tuple #[.iface 55 v, .bool true]) w := run_typeAssert_hasB Tryd.underlying176 (by kernel_rfl) v xT w
theorem noAsE (v : Value) (xT : TypeId) (w : World) : (Instr.typeAssert (.iface 37 v) xT 190 true).run Tryd.prog w = .ok (.tuple #[.nilIface, .bool false]) w := run_typeAssert_lacksB Tryd.underlying190 (by kernel_rfl) (by kernel_rfl) v xT w
theorem noIsE (v : Value) (xT : TypeId) (w : World) : (Instr.typeAssert (.iface 37 v) xT 182 true).run Tryd.prog w = .ok (.tuple #[.nilIface, .bool false]) w := run_typeAssert_lacksB Tryd.underlying182 (by kernel_rfl) (by kernel_rfl) v xT w
theorem noUsE (v : Value) (xT : TypeId) (w : World) : (Instr.typeAssert (.iface 37 v) xT 185 true).run Tryd.prog w = .ok (.tuple #[.nilIface, .bool false]) w := run_typeAssert_lacksB Tryd.underlying185 (by kernel_rfl) (by kernel_rfl) v xT w
theorem noUnE (v : Value) (xT : TypeId) (w : World) : (Instr.typeAssert (.iface 37 v) xT 176 true).run Tryd.prog w = .ok (.tuple #[.nilIface, .bool false]) w := run_typeAssert_lacksB Tryd.underlying176 (by kernel_rfl) (by kernel_rfl) v xT w
theorem noAsO (v : Value) (xT : TypeId) (w : World) : (Instr.typeAssert (.iface 148 v) xT 190 true).run Tryd.prog w = .ok (.tuple #[.nilIface, .bool false]) w := run_typeAssert_lacksB Tryd.underlying190 (by kernel_rfl) (by kernel_rfl) v xT w
theorem noIsO (v : Value) (xT : TypeId) (w : World) : (Instr.typeAssert (.iface 148 v) xT 182 true).run Tryd.prog w = .ok (.tuple #[.nilIface, .bool false]) w := run_typeAssert_lacksB Tryd.underlying182 (by kernel_rfl) (by kernel_rfl) v xT w
theorem noUsO (v : Value) (xT : TypeId) (w : World) : (Instr.typeAssert (.iface 148 v) xT 185 true).run Tryd.prog w = .ok (.tuple #[.nilIface, .bool false]) w := run_typeAssert_lacksB Tryd.underlying185 (by kernel_rfl) (by kernel_rfl) v xT w
theorem noUnO (v : Value) (xT : TypeId) (w : World) : (Instr.typeAssert (.iface 148 v) xT 176 true).run Tryd.prog w = .ok (.tuple #[.nilIface, .bool false]) w := run_typeAssert_lacksB Tryd.underlying176 (by kernel_rfl) (by kernel_rfl) v xT w
theorem methodUnB (v : Option Addr) (w : World) : (Go.method 410 86 (.pointer v) "Unwrap").run Tryd.prog w = .ok (34, .pointer v) w := by kernel_rfl
theorem methodErB (v : Option Addr) (w : World) : (Go.method 410 86 (.pointer v) "Error").run Tryd.prog w = .ok (33, .pointer v) w := by kernel_rfl
theorem methodUnF (v : Option Addr) (w : World) : (Go.method 410 87 (.pointer v) "Unwrap").run Tryd.prog w = .ok (36, .pointer v) w := by kernel_rfl
theorem methodErF (v : Option Addr) (w : World) : (Go.method 410 87 (.pointer v) "Error").run Tryd.prog w = .ok (35, .pointer v) w := by kernel_rfl
theorem methodUnI (v : Option Addr) (w : World) : (Go.method 410 55 (.pointer v) "Unwrap").run Tryd.prog w = .ok (28, .pointer v) w := by kernel_rfl
theorem methodErI (v : Option Addr) (w : World) : (Go.method 410 55 (.pointer v) "Error").run Tryd.prog w = .ok (37, .pointer v) w := by kernel_rfl

def ptr' (a : Nat) : Value := .pointer (some ⟨a, 0, none⟩)

/-- An error: none; a blame; a nil *Blame; a fault; a code; errors.New's; an error within a def. -/
inductive Er where
  | no
  | bl (a : Nat) (n : Int) (s : Site) (nm : ByteArray)
  | nb
  | fa (a : Nat) (c : Int)
  | er (n : Int)
  | ot (v : Option Addr)
  | inn (a : Nat) (d : ByteArray) (r : Er)

def Er.val : Er → Value
  | .no => .nilIface
  | .bl a _ _ _ => .iface 86 (ptr' a)
  | .nb => .iface 86 (.pointer none)
  | .fa a _ => .iface 87 (ptr' a)
  | .er n => .iface 37 (.int .i64 n)
  | .ot v => .iface 148 (.pointer v)
  | .inn a _ _ => .iface 55 (ptr' a)

def Er.At (w : World) : Er → Prop
  | .bl a n s nm => Blk w a 128 #[.int .i64 n, .string s.mo, .string s.ex, .int .i64 s.li, .int .i64 s.co, .int .i64 s.ru, .string nm]
  | .fa a c => Blk w a 91 #[.int .i64 c]
  | .inn a d r => Blk w a 59 #[.string d, r.val] ∧ r.At w
  | _ => True

theorem Er.At.below {w w' : World} (h : Below w.heap.size w w') : ∀ {e : Er}, e.At w → e.At w'
  | .no, _ => trivial
  | .bl a n s nm, k => Blk.below (w := w) k h (Blk.lt k)
  | .nb, _ => trivial
  | .fa a c, k => Blk.below (w := w) k h (Blk.lt k)
  | .er n, _ => trivial
  | .ot v, _ => trivial
  | .inn a d r, k => ⟨Blk.below k.1 h k.1.lt, Er.At.below h k.2⟩

def Er.len : Er → Nat
  | .bl .. => 2
  | .fa .. => 2
  | .inn _ _ r => 3 + r.len
  | .no => 0
  | _ => 1

/-- What 'Unwrap' leads to. -/
def Er.un : Er → Er
  | .bl .. => .er 33
  | .fa _ c => if c = 0 then .no else .er c
  | .inn _ _ r => r
  | _ => .no

/-- The first of its row that an errors.As target takes. -/
def Er.findB : Er → Option Value
  | .bl a _ _ _ => some (ptr' a)
  | .nb => some (.pointer none)
  | .inn _ _ r => r.findB
  | _ => none
def Er.findF : Er → Option Value
  | .fa a _ => some (ptr' a)
  | .inn _ _ r => r.findF
  | _ => none
def Er.findI : Er → Option Value
  | .inn a _ _ => some (ptr' a)
  | _ => none
def Er.code : Er → Option Int
  | .bl .. => some 33
  | .fa _ c => if c = 0 then none else some c
  | .er n => some n
  | .inn _ _ r => r.code
  | _ => none
def Er.findE (e : Er) : Option Value := e.code.map fun n => .int .i64 n

theorem unB_some (a : Nat) (w : World) : Calls Tryd.prog 34 #[ptr' a] w fun e w' => e = .returned (.iface 37 (.int .i64 33)) ∧ w = w' := by
  unfold ptr'
  go_enter Tryd.func34, Tryd.ntmps34
  go_wp2_with fail
  go_ret
  exact ⟨rfl, rfl⟩
theorem unB_none (w : World) : Calls Tryd.prog 34 #[.pointer none] w fun e w' => e = .returned .nilIface ∧ w = w' := by
  go_enter Tryd.func34, Tryd.ntmps34
  go_wp2_with fail
  go_ret
  exact ⟨rfl, rfl⟩
theorem unF_some (a : Nat) (c : Int) (w : World) (h : Blk w a 91 #[.int .i64 c]) : Calls Tryd.prog 36 #[ptr' a] w fun e w' => e = .returned (Er.val (if c = 0 then .no else .er c)) ∧ w = w' := by
  have c0 := h.cell 0
  simp only [List.getElem?_toArray, List.getElem?_cons_zero] at c0
  unfold ptr'
  by_cases hc : c = 0
  · subst hc
    go_enter Tryd.func36, Tryd.ntmps36
    go_wp2_with fail
    go_ret
    exact ⟨rfl, rfl⟩
  · rw [if_neg hc]
    go_enter Tryd.func36, Tryd.ntmps36
    go_wp2_with fail
    go_ret
    exact ⟨rfl, rfl⟩
theorem unF_none (w : World) : Calls Tryd.prog 36 #[.pointer none] w fun e w' => e = .returned .nilIface ∧ w = w' := by
  go_enter Tryd.func36, Tryd.ntmps36
  go_wp2_with fail
  go_ret
  exact ⟨rfl, rfl⟩
theorem unI_some (a : Nat) (d : ByteArray) (v : Value) (w : World) (h : Blk w a 59 #[.string d, v]) : Calls Tryd.prog 28 #[ptr' a] w fun e w' => e = .returned v ∧ w = w' := by
  have c1 := h.cell 1
  simp only [List.getElem?_toArray, List.getElem?_cons_zero, List.getElem?_cons_succ] at c1
  unfold ptr'
  go_enter Tryd.func28, Tryd.ntmps28
  go_wp2_with fail
  go_ret
  exact ⟨rfl, rfl⟩
theorem unI_none (w : World) : Calls Tryd.prog 28 #[.pointer none] w fun e w' => e = .returned .nilIface ∧ w = w' := by
  go_enter Tryd.func28, Tryd.ntmps28
  go_wp2_with fail
  go_ret
  exact ⟨rfl, rfl⟩
end Go.Proofs.YtkebplifkkhhlaaDoor.F
