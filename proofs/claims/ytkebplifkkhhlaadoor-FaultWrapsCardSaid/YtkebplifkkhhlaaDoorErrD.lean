/- Contracts: errors.As at the program's four targets, errors.Is at a code (printed by gen_errd.py). -/
import Derived.Test.YtkebplifkkhhlaaDoorErrC
import Derived.Test.YtkebplifkkhhlaaDoorErrLaw
namespace Go.Proofs.YtkebplifkkhhlaaDoor.F
open Go.RowKit Go.Extern.Stop Go.Stop Go.Extern Go.Proofs.YtkebplifkkhhlaaDoor.B Go.Proofs.YtkebplifkkhhlaaDoor.La
set_option linter.unusedVariables false
set_option linter.unusedSimpArgs false

theorem AsR.ev {w w' : World} {tb : Nat} {r : Option Value} {ev : Ending} (h : AsR w tb r ev w') : ev = .returned (.bool r.isSome) := by
  cases r with
  | none => exact h.1
  | some v => exact h.1
theorem AsR.more {w W w' : World} {tb : Nat} {r : Option Value} {ev : Ending} (h : AsR W tb r ev w') (hb : Below w.heap.size w W) : AsR w tb r ev w' := by
  cases r with
  | none => exact ⟨h.1, bl hb h.2⟩
  | some v => exact ⟨h.1, (But.of_below hb).trans h.2.1 fun _ _ h => h, h.2.2⟩
theorem Er.face {e : Er} (h : e ≠ .no) : ∃ D z, e.val = .iface D z := by cases e <;> first | exact absurd rfl h | exact ⟨_, _, rfl⟩


set_option maxRecDepth 100000 in
set_option maxHeartbeats 4000000 in
theorem As_B (e : Er) (tb : Nat) (old : Value) (w : World) (hg : w.cell? ⟨0, 0, none⟩ = some (.iface 180 (.agg #[.pointer (some ⟨5, 28, none⟩)]))) (hat : e.At w) (ht : w.cell? ⟨tb, 0, none⟩ = some old) (hf : w.frozen? ⟨tb, 0, none⟩ = false) :
    Calls Tryd.prog 26 #[e.val, .iface 129 (.pointer (some ⟨tb, 0, none⟩))] w fun ev w' => AsR w tb e.findB ev w' := by
  by_cases hno : e = .no
  · subst hno
    simp only [Er.val]
    go_enter Tryd.func26, Tryd.ntmps26
    go_wp2_with fail
    go_ret
    exact ⟨rfl, Below.refl _ _⟩
  have h66 := @run_callFunc_extern Tryd.prog 66 _ (fun args => ReflectliteValue.unpack (args.getD 0 (.tuple #[]))) Tryd.func66 (by kernel_rfl) (by kernel_rfl) (by kernel_rfl) (by kernel_rfl)
  have h67 := @run_callFunc_extern Tryd.prog 67 _ (ReflectliteValue.methodAny (ReflectliteValue.valueError "reflectlite.Value.Type" 0) (fun t _ _ _ => ReflectliteType.toType t)) Tryd.func67 (by kernel_rfl) (by kernel_rfl) (by kernel_rfl) (by kernel_rfl)
  have h68 := @run_callFunc_extern Tryd.prog 68 _ (ReflectliteValue.method (ReflectliteValue.valueError "reflectlite.Value.IsNil" 0) ReflectliteValue.isNil) Tryd.func68 (by kernel_rfl) (by kernel_rfl) (by kernel_rfl) (by kernel_rfl)
  have h27 := @run_callFunc_extern Tryd.prog 183 _ (ReflectliteType.abiMethod fun t => do pure (.int .u8 (← Rtype.kind t))) Tryd.func183 (by kernel_rfl) (by kernel_rfl) (by kernel_rfl) (by kernel_rfl)
  have h37 := @run_callFunc_extern Tryd.prog 194 _ (ReflectliteType.method ReflectliteType.elem) Tryd.func194 (by kernel_rfl) (by kernel_rfl) (by kernel_rfl) (by kernel_rfl)
  have h38 := @run_callFunc_extern Tryd.prog 195 _ (ReflectliteType.relation "Implements" ReflectliteType.implements_) Tryd.func195 (by kernel_rfl) (by kernel_rfl) (by kernel_rfl) (by kernel_rfl)
  have f6 := valueOfPB
  have f7 := typePB
  have mK := methodKind
  have mE := methodElem
  have mI := methodImplements
  have kP := kindPB
  have kX := kindB
  have eP := elemPB
  have iX := implB
  have hgl : 0 < w.heap.size := cell_lt hg
  have htl : tb < w.heap.size := cell_lt ht
  obtain ⟨W, hW⟩ : ∃ W, (w.alloc (.cells #[.pointer (some ⟨tb, 0, none⟩)] 129)).alloc (.cells #[.pointer (some ⟨5, 129, none⟩), .pointer (some ⟨w.heap.size, 0, none⟩), .int .u64 150] 141) = W := ⟨_, rfl⟩
  have hs : W.heap.size = w.heap.size + 2 := by rw [← hW]; simp
  have hb : Below w.heap.size w W := by rw [← hW]; exact ((Below.refl _ _).alloc (Nat.le_refl _) _).alloc (by simp) _
  have n8 := isNilPB ⟨w.heap.size, 0, none⟩ ⟨tb, 0, none⟩ W (by rw [← hW, World.cell?_alloc_lt _ _ ⟨w.heap.size, 0, none⟩ (by simp)]; simp)
  have hg2 : W.cell? ⟨0, 0, none⟩ = some (.iface 180 (.agg #[.pointer (some ⟨5, 28, none⟩)])) := (hb.cell (p := ⟨0, 0, none⟩) hgl).trans hg
  have w0 : W.cell? ⟨w.heap.size + 1, 0, none⟩ = some (.pointer (some ⟨5, 129, none⟩)) := by rw [← hW]; simp
  have w1 : W.cell? ⟨w.heap.size + 1, 1, none⟩ = some (.pointer (some ⟨w.heap.size, 0, none⟩)) := by rw [← hW]; simp
  have w2 : W.cell? ⟨w.heap.size + 1, 2, none⟩ = some (.int .u64 150) := by rw [← hW]; simp
  have has := as_B e tb w.heap.size old W hno (Er.At.below hb hat) (by rw [← hW, World.cell?_alloc_lt _ _ ⟨w.heap.size, 0, none⟩ (by simp)]; simp) ((hb.cell (p := ⟨tb, 0, none⟩) htl).trans ht) ((hb.frozen (p := ⟨tb, 0, none⟩) htl).trans hf)
  obtain ⟨D, z, hz⟩ := Er.face hno
  rw [hz] at has ⊢
  clear hz hs htl hgl hg ht hf hat hno
  go_enter Tryd.func26, Tryd.ntmps26
  go_wp2_with fail
  try rw [hW]
  (refine has.mono ?_); rintro ev w3 H
  obtain rfl := H.ev
  have HH := Lib.hid H
  clear H
  go_wp2_with fail
  go_ret
  exact HH.out.more hb

set_option maxRecDepth 100000 in
set_option maxHeartbeats 4000000 in
theorem As_F (e : Er) (tb : Nat) (old : Value) (w : World) (hg : w.cell? ⟨0, 0, none⟩ = some (.iface 180 (.agg #[.pointer (some ⟨5, 28, none⟩)]))) (hat : e.At w) (ht : w.cell? ⟨tb, 0, none⟩ = some old) (hf : w.frozen? ⟨tb, 0, none⟩ = false) :
    Calls Tryd.prog 26 #[e.val, .iface 133 (.pointer (some ⟨tb, 0, none⟩))] w fun ev w' => AsR w tb e.findF ev w' := by
  by_cases hno : e = .no
  · subst hno
    simp only [Er.val]
    go_enter Tryd.func26, Tryd.ntmps26
    go_wp2_with fail
    go_ret
    exact ⟨rfl, Below.refl _ _⟩
  have h66 := @run_callFunc_extern Tryd.prog 66 _ (fun args => ReflectliteValue.unpack (args.getD 0 (.tuple #[]))) Tryd.func66 (by kernel_rfl) (by kernel_rfl) (by kernel_rfl) (by kernel_rfl)
  have h67 := @run_callFunc_extern Tryd.prog 67 _ (ReflectliteValue.methodAny (ReflectliteValue.valueError "reflectlite.Value.Type" 0) (fun t _ _ _ => ReflectliteType.toType t)) Tryd.func67 (by kernel_rfl) (by kernel_rfl) (by kernel_rfl) (by kernel_rfl)
  have h68 := @run_callFunc_extern Tryd.prog 68 _ (ReflectliteValue.method (ReflectliteValue.valueError "reflectlite.Value.IsNil" 0) ReflectliteValue.isNil) Tryd.func68 (by kernel_rfl) (by kernel_rfl) (by kernel_rfl) (by kernel_rfl)
  have h27 := @run_callFunc_extern Tryd.prog 183 _ (ReflectliteType.abiMethod fun t => do pure (.int .u8 (← Rtype.kind t))) Tryd.func183 (by kernel_rfl) (by kernel_rfl) (by kernel_rfl) (by kernel_rfl)
  have h37 := @run_callFunc_extern Tryd.prog 194 _ (ReflectliteType.method ReflectliteType.elem) Tryd.func194 (by kernel_rfl) (by kernel_rfl) (by kernel_rfl) (by kernel_rfl)
  have h38 := @run_callFunc_extern Tryd.prog 195 _ (ReflectliteType.relation "Implements" ReflectliteType.implements_) Tryd.func195 (by kernel_rfl) (by kernel_rfl) (by kernel_rfl) (by kernel_rfl)
  have f6 := valueOfPF
  have f7 := typePF
  have mK := methodKind
  have mE := methodElem
  have mI := methodImplements
  have kP := kindPF
  have kX := kindF
  have eP := elemPF
  have iX := implF
  have hgl : 0 < w.heap.size := cell_lt hg
  have htl : tb < w.heap.size := cell_lt ht
  obtain ⟨W, hW⟩ : ∃ W, (w.alloc (.cells #[.pointer (some ⟨tb, 0, none⟩)] 133)).alloc (.cells #[.pointer (some ⟨5, 133, none⟩), .pointer (some ⟨w.heap.size, 0, none⟩), .int .u64 150] 141) = W := ⟨_, rfl⟩
  have hs : W.heap.size = w.heap.size + 2 := by rw [← hW]; simp
  have hb : Below w.heap.size w W := by rw [← hW]; exact ((Below.refl _ _).alloc (Nat.le_refl _) _).alloc (by simp) _
  have n8 := isNilPF ⟨w.heap.size, 0, none⟩ ⟨tb, 0, none⟩ W (by rw [← hW, World.cell?_alloc_lt _ _ ⟨w.heap.size, 0, none⟩ (by simp)]; simp)
  have hg2 : W.cell? ⟨0, 0, none⟩ = some (.iface 180 (.agg #[.pointer (some ⟨5, 28, none⟩)])) := (hb.cell (p := ⟨0, 0, none⟩) hgl).trans hg
  have w0 : W.cell? ⟨w.heap.size + 1, 0, none⟩ = some (.pointer (some ⟨5, 133, none⟩)) := by rw [← hW]; simp
  have w1 : W.cell? ⟨w.heap.size + 1, 1, none⟩ = some (.pointer (some ⟨w.heap.size, 0, none⟩)) := by rw [← hW]; simp
  have w2 : W.cell? ⟨w.heap.size + 1, 2, none⟩ = some (.int .u64 150) := by rw [← hW]; simp
  have has := as_F e tb w.heap.size old W hno (Er.At.below hb hat) (by rw [← hW, World.cell?_alloc_lt _ _ ⟨w.heap.size, 0, none⟩ (by simp)]; simp) ((hb.cell (p := ⟨tb, 0, none⟩) htl).trans ht) ((hb.frozen (p := ⟨tb, 0, none⟩) htl).trans hf)
  obtain ⟨D, z, hz⟩ := Er.face hno
  rw [hz] at has ⊢
  clear hz hs htl hgl hg ht hf hat hno
  go_enter Tryd.func26, Tryd.ntmps26
  go_wp2_with fail
  try rw [hW]
  (refine has.mono ?_); rintro ev w3 H
  obtain rfl := H.ev
  have HH := Lib.hid H
  clear H
  go_wp2_with fail
  go_ret
  exact HH.out.more hb

set_option maxRecDepth 100000 in
set_option maxHeartbeats 4000000 in
theorem As_I (e : Er) (tb : Nat) (old : Value) (w : World) (hg : w.cell? ⟨0, 0, none⟩ = some (.iface 180 (.agg #[.pointer (some ⟨5, 28, none⟩)]))) (hat : e.At w) (ht : w.cell? ⟨tb, 0, none⟩ = some old) (hf : w.frozen? ⟨tb, 0, none⟩ = false) :
    Calls Tryd.prog 26 #[e.val, .iface 57 (.pointer (some ⟨tb, 0, none⟩))] w fun ev w' => AsR w tb e.findI ev w' := by
  by_cases hno : e = .no
  · subst hno
    simp only [Er.val]
    go_enter Tryd.func26, Tryd.ntmps26
    go_wp2_with fail
    go_ret
    exact ⟨rfl, Below.refl _ _⟩
  have h66 := @run_callFunc_extern Tryd.prog 66 _ (fun args => ReflectliteValue.unpack (args.getD 0 (.tuple #[]))) Tryd.func66 (by kernel_rfl) (by kernel_rfl) (by kernel_rfl) (by kernel_rfl)
  have h67 := @run_callFunc_extern Tryd.prog 67 _ (ReflectliteValue.methodAny (ReflectliteValue.valueError "reflectlite.Value.Type" 0) (fun t _ _ _ => ReflectliteType.toType t)) Tryd.func67 (by kernel_rfl) (by kernel_rfl) (by kernel_rfl) (by kernel_rfl)
  have h68 := @run_callFunc_extern Tryd.prog 68 _ (ReflectliteValue.method (ReflectliteValue.valueError "reflectlite.Value.IsNil" 0) ReflectliteValue.isNil) Tryd.func68 (by kernel_rfl) (by kernel_rfl) (by kernel_rfl) (by kernel_rfl)
  have h27 := @run_callFunc_extern Tryd.prog 183 _ (ReflectliteType.abiMethod fun t => do pure (.int .u8 (← Rtype.kind t))) Tryd.func183 (by kernel_rfl) (by kernel_rfl) (by kernel_rfl) (by kernel_rfl)
  have h37 := @run_callFunc_extern Tryd.prog 194 _ (ReflectliteType.method ReflectliteType.elem) Tryd.func194 (by kernel_rfl) (by kernel_rfl) (by kernel_rfl) (by kernel_rfl)
  have h38 := @run_callFunc_extern Tryd.prog 195 _ (ReflectliteType.relation "Implements" ReflectliteType.implements_) Tryd.func195 (by kernel_rfl) (by kernel_rfl) (by kernel_rfl) (by kernel_rfl)
  have f6 := valueOfPI
  have f7 := typePI
  have mK := methodKind
  have mE := methodElem
  have mI := methodImplements
  have kP := kindPI
  have kX := kindI
  have eP := elemPI
  have iX := implI
  have hgl : 0 < w.heap.size := cell_lt hg
  have htl : tb < w.heap.size := cell_lt ht
  obtain ⟨W, hW⟩ : ∃ W, (w.alloc (.cells #[.pointer (some ⟨tb, 0, none⟩)] 57)).alloc (.cells #[.pointer (some ⟨5, 57, none⟩), .pointer (some ⟨w.heap.size, 0, none⟩), .int .u64 150] 141) = W := ⟨_, rfl⟩
  have hs : W.heap.size = w.heap.size + 2 := by rw [← hW]; simp
  have hb : Below w.heap.size w W := by rw [← hW]; exact ((Below.refl _ _).alloc (Nat.le_refl _) _).alloc (by simp) _
  have n8 := isNilPI ⟨w.heap.size, 0, none⟩ ⟨tb, 0, none⟩ W (by rw [← hW, World.cell?_alloc_lt _ _ ⟨w.heap.size, 0, none⟩ (by simp)]; simp)
  have hg2 : W.cell? ⟨0, 0, none⟩ = some (.iface 180 (.agg #[.pointer (some ⟨5, 28, none⟩)])) := (hb.cell (p := ⟨0, 0, none⟩) hgl).trans hg
  have w0 : W.cell? ⟨w.heap.size + 1, 0, none⟩ = some (.pointer (some ⟨5, 57, none⟩)) := by rw [← hW]; simp
  have w1 : W.cell? ⟨w.heap.size + 1, 1, none⟩ = some (.pointer (some ⟨w.heap.size, 0, none⟩)) := by rw [← hW]; simp
  have w2 : W.cell? ⟨w.heap.size + 1, 2, none⟩ = some (.int .u64 150) := by rw [← hW]; simp
  have has := as_I e tb w.heap.size old W hno (Er.At.below hb hat) (by rw [← hW, World.cell?_alloc_lt _ _ ⟨w.heap.size, 0, none⟩ (by simp)]; simp) ((hb.cell (p := ⟨tb, 0, none⟩) htl).trans ht) ((hb.frozen (p := ⟨tb, 0, none⟩) htl).trans hf)
  obtain ⟨D, z, hz⟩ := Er.face hno
  rw [hz] at has ⊢
  clear hz hs htl hgl hg ht hf hat hno
  go_enter Tryd.func26, Tryd.ntmps26
  go_wp2_with fail
  try rw [hW]
  (refine has.mono ?_); rintro ev w3 H
  obtain rfl := H.ev
  have HH := Lib.hid H
  clear H
  go_wp2_with fail
  go_ret
  exact HH.out.more hb

set_option maxRecDepth 100000 in
set_option maxHeartbeats 4000000 in
theorem As_E (e : Er) (tb : Nat) (old : Value) (w : World) (hg : w.cell? ⟨0, 0, none⟩ = some (.iface 180 (.agg #[.pointer (some ⟨5, 28, none⟩)]))) (hat : e.At w) (ht : w.cell? ⟨tb, 0, none⟩ = some old) (hf : w.frozen? ⟨tb, 0, none⟩ = false) :
    Calls Tryd.prog 26 #[e.val, .iface 130 (.pointer (some ⟨tb, 0, none⟩))] w fun ev w' => AsR w tb e.findE ev w' := by
  by_cases hno : e = .no
  · subst hno
    simp only [Er.val]
    go_enter Tryd.func26, Tryd.ntmps26
    go_wp2_with fail
    go_ret
    exact ⟨rfl, Below.refl _ _⟩
  have h66 := @run_callFunc_extern Tryd.prog 66 _ (fun args => ReflectliteValue.unpack (args.getD 0 (.tuple #[]))) Tryd.func66 (by kernel_rfl) (by kernel_rfl) (by kernel_rfl) (by kernel_rfl)
  have h67 := @run_callFunc_extern Tryd.prog 67 _ (ReflectliteValue.methodAny (ReflectliteValue.valueError "reflectlite.Value.Type" 0) (fun t _ _ _ => ReflectliteType.toType t)) Tryd.func67 (by kernel_rfl) (by kernel_rfl) (by kernel_rfl) (by kernel_rfl)
  have h68 := @run_callFunc_extern Tryd.prog 68 _ (ReflectliteValue.method (ReflectliteValue.valueError "reflectlite.Value.IsNil" 0) ReflectliteValue.isNil) Tryd.func68 (by kernel_rfl) (by kernel_rfl) (by kernel_rfl) (by kernel_rfl)
  have h27 := @run_callFunc_extern Tryd.prog 183 _ (ReflectliteType.abiMethod fun t => do pure (.int .u8 (← Rtype.kind t))) Tryd.func183 (by kernel_rfl) (by kernel_rfl) (by kernel_rfl) (by kernel_rfl)
  have h37 := @run_callFunc_extern Tryd.prog 194 _ (ReflectliteType.method ReflectliteType.elem) Tryd.func194 (by kernel_rfl) (by kernel_rfl) (by kernel_rfl) (by kernel_rfl)
  have h38 := @run_callFunc_extern Tryd.prog 195 _ (ReflectliteType.relation "Implements" ReflectliteType.implements_) Tryd.func195 (by kernel_rfl) (by kernel_rfl) (by kernel_rfl) (by kernel_rfl)
  have f6 := valueOfPE
  have f7 := typePE
  have mK := methodKind
  have mE := methodElem
  have mI := methodImplements
  have kP := kindPE
  have kX := kindE
  have eP := elemPE
  have iX := implE
  have hgl : 0 < w.heap.size := cell_lt hg
  have htl : tb < w.heap.size := cell_lt ht
  obtain ⟨W, hW⟩ : ∃ W, (w.alloc (.cells #[.pointer (some ⟨tb, 0, none⟩)] 130)).alloc (.cells #[.pointer (some ⟨5, 130, none⟩), .pointer (some ⟨w.heap.size, 0, none⟩), .int .u64 150] 141) = W := ⟨_, rfl⟩
  have hs : W.heap.size = w.heap.size + 2 := by rw [← hW]; simp
  have hb : Below w.heap.size w W := by rw [← hW]; exact ((Below.refl _ _).alloc (Nat.le_refl _) _).alloc (by simp) _
  have n8 := isNilPE ⟨w.heap.size, 0, none⟩ ⟨tb, 0, none⟩ W (by rw [← hW, World.cell?_alloc_lt _ _ ⟨w.heap.size, 0, none⟩ (by simp)]; simp)
  have hg2 : W.cell? ⟨0, 0, none⟩ = some (.iface 180 (.agg #[.pointer (some ⟨5, 28, none⟩)])) := (hb.cell (p := ⟨0, 0, none⟩) hgl).trans hg
  have w0 : W.cell? ⟨w.heap.size + 1, 0, none⟩ = some (.pointer (some ⟨5, 130, none⟩)) := by rw [← hW]; simp
  have w1 : W.cell? ⟨w.heap.size + 1, 1, none⟩ = some (.pointer (some ⟨w.heap.size, 0, none⟩)) := by rw [← hW]; simp
  have w2 : W.cell? ⟨w.heap.size + 1, 2, none⟩ = some (.int .u64 150) := by rw [← hW]; simp
  have has := as_E e tb w.heap.size old W hno (Er.At.below hb hat) (by rw [← hW, World.cell?_alloc_lt _ _ ⟨w.heap.size, 0, none⟩ (by simp)]; simp) ((hb.cell (p := ⟨tb, 0, none⟩) htl).trans ht) ((hb.frozen (p := ⟨tb, 0, none⟩) htl).trans hf)
  obtain ⟨D, z, hz⟩ := Er.face hno
  rw [hz] at has ⊢
  clear hz hs htl hgl hg ht hf hat hno
  go_enter Tryd.func26, Tryd.ntmps26
  go_wp2_with fail
  try rw [hW]
  (refine has.mono ?_); rintro ev w3 H
  obtain rfl := H.ev
  have HH := Lib.hid H
  clear H
  go_wp2_with fail
  go_ret
  exact HH.out.more hb
end Go.Proofs.YtkebplifkkhhlaaDoor.F
