/- Type assertions of the program's errors to concrete types (printed by gen_errt.py). -/
import Derived.Test.YtkebplifkkhhlaaDoorErrB
namespace Go.Proofs.YtkebplifkkhhlaaDoor.F
open Go.RowKit Go.Proofs.YtkebplifkkhhlaaDoor.B

theorem taBB (v : Value) (xT : TypeId) (w : World) : (Instr.typeAssert (.iface 86 v) xT 86 true).run Tryd.prog w = .ok (.tuple #[v, .bool true]) w := by kernel_rfl
theorem taFB (v : Value) (xT : TypeId) (w : World) : (Instr.typeAssert (.iface 87 v) xT 86 true).run Tryd.prog w = .ok (.tuple #[.pointer none, .bool false]) w := by kernel_rfl
theorem taIB (v : Value) (xT : TypeId) (w : World) : (Instr.typeAssert (.iface 55 v) xT 86 true).run Tryd.prog w = .ok (.tuple #[.pointer none, .bool false]) w := by kernel_rfl
theorem taEB (v : Value) (xT : TypeId) (w : World) : (Instr.typeAssert (.iface 37 v) xT 86 true).run Tryd.prog w = .ok (.tuple #[.pointer none, .bool false]) w := by kernel_rfl
theorem taOB (v : Value) (xT : TypeId) (w : World) : (Instr.typeAssert (.iface 148 v) xT 86 true).run Tryd.prog w = .ok (.tuple #[.pointer none, .bool false]) w := by kernel_rfl
theorem taNB (xT : TypeId) (w : World) : (Instr.typeAssert .nilIface xT 86 true).run Tryd.prog w = .ok (.tuple #[.pointer none, .bool false]) w := by kernel_rfl
theorem taBF (v : Value) (xT : TypeId) (w : World) : (Instr.typeAssert (.iface 86 v) xT 87 true).run Tryd.prog w = .ok (.tuple #[.pointer none, .bool false]) w := by kernel_rfl
theorem taFF (v : Value) (xT : TypeId) (w : World) : (Instr.typeAssert (.iface 87 v) xT 87 true).run Tryd.prog w = .ok (.tuple #[v, .bool true]) w := by kernel_rfl
theorem taIF (v : Value) (xT : TypeId) (w : World) : (Instr.typeAssert (.iface 55 v) xT 87 true).run Tryd.prog w = .ok (.tuple #[.pointer none, .bool false]) w := by kernel_rfl
theorem taEF (v : Value) (xT : TypeId) (w : World) : (Instr.typeAssert (.iface 37 v) xT 87 true).run Tryd.prog w = .ok (.tuple #[.pointer none, .bool false]) w := by kernel_rfl
theorem taOF (v : Value) (xT : TypeId) (w : World) : (Instr.typeAssert (.iface 148 v) xT 87 true).run Tryd.prog w = .ok (.tuple #[.pointer none, .bool false]) w := by kernel_rfl
theorem taNF (xT : TypeId) (w : World) : (Instr.typeAssert .nilIface xT 87 true).run Tryd.prog w = .ok (.tuple #[.pointer none, .bool false]) w := by kernel_rfl
theorem taBI (v : Value) (xT : TypeId) (w : World) : (Instr.typeAssert (.iface 86 v) xT 55 true).run Tryd.prog w = .ok (.tuple #[.pointer none, .bool false]) w := by kernel_rfl
theorem taFI (v : Value) (xT : TypeId) (w : World) : (Instr.typeAssert (.iface 87 v) xT 55 true).run Tryd.prog w = .ok (.tuple #[.pointer none, .bool false]) w := by kernel_rfl
theorem taII (v : Value) (xT : TypeId) (w : World) : (Instr.typeAssert (.iface 55 v) xT 55 true).run Tryd.prog w = .ok (.tuple #[v, .bool true]) w := by kernel_rfl
theorem taEI (v : Value) (xT : TypeId) (w : World) : (Instr.typeAssert (.iface 37 v) xT 55 true).run Tryd.prog w = .ok (.tuple #[.pointer none, .bool false]) w := by kernel_rfl
theorem taOI (v : Value) (xT : TypeId) (w : World) : (Instr.typeAssert (.iface 148 v) xT 55 true).run Tryd.prog w = .ok (.tuple #[.pointer none, .bool false]) w := by kernel_rfl
theorem taNI (xT : TypeId) (w : World) : (Instr.typeAssert .nilIface xT 55 true).run Tryd.prog w = .ok (.tuple #[.pointer none, .bool false]) w := by kernel_rfl
theorem taBE (v : Value) (xT : TypeId) (w : World) : (Instr.typeAssert (.iface 86 v) xT 37 true).run Tryd.prog w = .ok (.tuple #[.int .i64 0, .bool false]) w := by kernel_rfl
theorem taFE (v : Value) (xT : TypeId) (w : World) : (Instr.typeAssert (.iface 87 v) xT 37 true).run Tryd.prog w = .ok (.tuple #[.int .i64 0, .bool false]) w := by kernel_rfl
theorem taIE (v : Value) (xT : TypeId) (w : World) : (Instr.typeAssert (.iface 55 v) xT 37 true).run Tryd.prog w = .ok (.tuple #[.int .i64 0, .bool false]) w := by kernel_rfl
theorem taEE (v : Value) (xT : TypeId) (w : World) : (Instr.typeAssert (.iface 37 v) xT 37 true).run Tryd.prog w = .ok (.tuple #[v, .bool true]) w := by kernel_rfl
theorem taOE (v : Value) (xT : TypeId) (w : World) : (Instr.typeAssert (.iface 148 v) xT 37 true).run Tryd.prog w = .ok (.tuple #[.int .i64 0, .bool false]) w := by kernel_rfl
theorem taNE (xT : TypeId) (w : World) : (Instr.typeAssert .nilIface xT 37 true).run Tryd.prog w = .ok (.tuple #[.int .i64 0, .bool false]) w := by kernel_rfl
end Go.Proofs.YtkebplifkkhhlaaDoor.F
