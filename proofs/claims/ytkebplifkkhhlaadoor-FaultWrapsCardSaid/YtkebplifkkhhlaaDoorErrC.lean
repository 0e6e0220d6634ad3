/- Contracts: errors.as at the program's four targets (printed by gen_errc.py). -/
import Derived.Test.YtkebplifkkhhlaaDoorErrB
import Derived.Test.YtkebplifkkhhlaaDoorBag
import Derived.Deep.LoopGhost
import Derived.Lib.Hide
namespace Go.Proofs.YtkebplifkkhhlaaDoor.F
open Go.RowKit Go.Extern.Stop Go.Stop Go.Extern Go.Proofs.YtkebplifkkhhlaaDoor.B Go.Proofs.YtkebplifkkhhlaaDoor.La
set_option linter.unusedVariables false
set_option linter.unusedSimpArgs false

/-- What errors.as answers: r is what it found. -/
def AsR (w : World) (tb : Nat) (r : Option Value) (ev : Ending) (w' : World) : Prop :=
  match r with
  | some v => ev = .returned (.bool true) ∧ But (· = tb) w w' ∧ w'.cell? ⟨tb, 0, none⟩ = some v
  | none => ev = .returned (.bool false) ∧ Below w.heap.size w w'

theorem but_set {C : Nat → Prop} {a w : World} (h : But C a w) (p : Addr) (hp : C p.block) (u : Value) : But C a (w.setCell p u) :=
  ⟨h.os, h.tape, h.output, by simpa using h.size, fun k hk hc => by
    rw [← h.block k hk hc]
    exact Below.heap_setCell w p u k fun e => hc (e ▸ hp)⟩
theorem cell_lt {w : World} {p : Addr} {v : Value} (h : w.cell? p = some v) : p.block < w.heap.size := by
  rcases Nat.lt_or_ge p.block w.heap.size with h1 | h1
  · exact h1
  · simp [World.cell?, Array.getElem?_eq_none h1] at h


set_option maxRecDepth 100000 in
set_option maxHeartbeats 4000000 in
theorem as_B (e0 : Er) (tb k : Nat) (old : Value) (w : World) (he : e0 ≠ .no) (hat : e0.At w) (hk : w.cell? ⟨k, 0, none⟩ = some (.pointer (some ⟨tb, 0, none⟩))) (ht : w.cell? ⟨tb, 0, none⟩ = some old) (hf : w.frozen? ⟨tb, 0, none⟩ = false) :
    Calls Tryd.prog 69 #[e0.val, .iface 129 (.pointer (some ⟨tb, 0, none⟩)), .agg #[.pointer (some ⟨5, 129, none⟩), .pointer (some ⟨k, 0, none⟩), .int .u64 150], .iface 180 (.agg #[.pointer (some ⟨5, 86, none⟩)])] w fun ev w' => AsR w tb e0.findB ev w' := by
  have h64 := @run_callFunc_extern Tryd.prog 64 _ ReflectliteType.typeOf Tryd.func64 (by kernel_rfl) (by kernel_rfl) (by kernel_rfl) (by kernel_rfl)
  have h66 := @run_callFunc_extern Tryd.prog 66 _ (fun args => ReflectliteValue.unpack (args.getD 0 (.tuple #[]))) Tryd.func66 (by kernel_rfl) (by kernel_rfl) (by kernel_rfl) (by kernel_rfl)
  have hAT := @run_callFunc_extern Tryd.prog 192 _ (ReflectliteType.relation "AssignableTo" ReflectliteType.assignableTo) Tryd.func192 (by kernel_rfl) (by kernel_rfl) (by kernel_rfl) (by kernel_rfl)
  have hEL := @run_callFunc_extern Tryd.prog 111 _ (ReflectliteValue.method (ReflectliteValue.valueError "reflectlite.Value.Elem" 0) ReflectliteValue.elem) Tryd.func111 (by kernel_rfl) (by kernel_rfl) (by kernel_rfl) (by kernel_rfl)
  have hST := @run_callFunc_extern Tryd.prog 112 _ ReflectliteValue.set Tryd.func112 (by kernel_rfl) (by kernel_rfl) (by kernel_rfl) (by kernel_rfl)
  have mA := methodAssignableTo
  have hkl : k < w.heap.size := cell_lt hk
  have htl : tb < w.heap.size := cell_lt ht
  obtain ⟨wb, hwb⟩ : ∃ wb, w.alloc (.cells #[.pointer (some ⟨5, 129, none⟩), .pointer (some ⟨k, 0, none⟩), .int .u64 150] 141) = wb := ⟨_, rfl⟩
  have hk1 : wb.cell? ⟨k, 0, none⟩ = some (.pointer (some ⟨tb, 0, none⟩)) := by rw [← hwb, World.cell?_alloc_lt _ _ ⟨k, 0, none⟩ hkl]; exact hk
  have ht1 : wb.cell? ⟨tb, 0, none⟩ = some old := by rw [← hwb, World.cell?_alloc_lt _ _ ⟨tb, 0, none⟩ htl]; exact ht
  have hf1 : wb.frozen? ⟨tb, 0, none⟩ = false := by rw [← hwb, World.frozen?_alloc_old _ _ ⟨tb, 0, none⟩ (Nat.ne_of_lt htl)]; exact hf
  have hs1 : wb.heap.size = w.heap.size + 1 := by rw [← hwb]; simp
  have hb1 : Below w.heap.size w wb := by rw [← hwb]; exact (Below.refl _ _).alloc (Nat.le_refl _) _
  have el := elemVPB ⟨k, 0, none⟩ ⟨tb, 0, none⟩ wb hk1
  have st : ∀ v : Option Addr, (ReflectliteValue.set #[.agg #[.pointer (some ⟨5, 86, none⟩), .pointer (some ⟨tb, 0, none⟩), .int .u64 406], .agg #[.pointer (some ⟨5, 86, none⟩), .pointer (some ⟨wb.heap.size, 0, none⟩), .int .u64 150]]).run Tryd.prog (wb.alloc (.cells #[.pointer v] 86)) = .ok (.tuple #[]) ((wb.alloc (.cells #[.pointer v] 86)).setCell ⟨tb, 0, none⟩ (.pointer v)) := fun v =>
    setB ⟨tb, 0, none⟩ ⟨wb.heap.size, 0, none⟩ v old _ (by rw [World.cell?_alloc_at _ _ _ _ (by simp)]; rfl) (by rw [World.cell?_alloc_lt _ _ ⟨tb, 0, none⟩ (by simp; omega)]; exact ht1) (by rw [World.frozen?_alloc_old _ _ ⟨tb, 0, none⟩ (by simp; omega)]; exact hf1)
  have fin : ∀ v : Option Addr, But (· = tb) w ((wb.alloc (.cells #[.pointer v] 86)).setCell ⟨tb, 0, none⟩ (.pointer v)) ∧ ((wb.alloc (.cells #[.pointer v] 86)).setCell ⟨tb, 0, none⟩ (.pointer v)).cell? ⟨tb, 0, none⟩ = some (.pointer v) := fun v =>
    ⟨but_set (C := (· = tb)) ((But.of_below hb1).alloc _) _ rfl _, World.cell?_setCell_same _ _ _ (u := old) (by rw [World.cell?_alloc_lt _ _ ⟨tb, 0, none⟩ (by simp; omega)]; exact ht1)⟩
  have w0 : wb.cell? ⟨w.heap.size, 0, none⟩ = some (.pointer (some ⟨5, 129, none⟩)) := by rw [← hwb]; simp
  have w1 : wb.cell? ⟨w.heap.size, 1, none⟩ = some (.pointer (some ⟨k, 0, none⟩)) := by rw [← hwb]; simp
  have w2 : wb.cell? ⟨w.heap.size, 2, none⟩ = some (.int .u64 150) := by rw [← hwb]; simp
  have HB := Lib.hid hwb
  have HS := Lib.hid hs1
  have HF := Lib.hid fin
  have HR := Lib.hid hb1
  have HT := Lib.hid hat
  have HV := valueOfB
  clear hs1 fin hb1 hat hf1 ht1 hk1 hf ht hk hkl htl
  go_enter Tryd.func69, Tryd.ntmps69
  go_wp2_with fail
  try rw [hwb]
  go_loopg [0] e0.len (fun q s wr => ∃ e : Er, Hid (e ≠ .no) ∧ q = e.len ∧ s = e.val ∧ Hid (e.At wb) ∧ Hid (e.findB = e0.findB) ∧ wr = wb)
  case atStart => exact ⟨e0, Lib.hid he, rfl, rfl, Lib.hid (HT.out.below HR.out), Lib.hid rfl, rfl⟩
  case round =>
    obtain ⟨e, HE, rfl, rfl, HA, HG, rfl⟩ := hrel
    cases e with
    | no => exact absurd rfl HE.out
    | bl a n s nm =>
      have tO := typeOfB
      have aO := asgBB
      have nA := noAsB
      have nS := noUsB
      have hU := hasUnB
      have mU := methodUnB
      simp only [Er.val, ptr'] at *
      have s1 := st (some ⟨a, 0, none⟩)
      go_wp2_with fail
      go_ret
      rw [← HG.out]
      exact ⟨rfl, HF.out (some ⟨a, 0, none⟩)⟩
    | nb  =>
      have tO := typeOfB
      have aO := asgBB
      have nA := noAsB
      have nS := noUsB
      have hU := hasUnB
      have mU := methodUnB
      simp only [Er.val, ptr'] at *
      have s1 := st none
      go_wp2_with fail
      go_ret
      rw [← HG.out]
      exact ⟨rfl, HF.out none⟩
    | fa a c =>
      have tO := typeOfF
      have aO := asgFB
      have nA := noAsF
      have nS := noUsF
      have hU := hasUnF
      have mU := methodUnF
      simp only [Er.val, ptr'] at *
      go_wp2_with fail
      (refine (unF_some a c _ HA.out).mono ?_); rintro ev w1 ⟨rfl, rfl⟩
      by_cases hc : c = 0
      · rw [if_pos hc]
        simp only [Er.val]
        go_wp2_with fail
        go_ret
        rw [← HG.out]
        simp only [Er.findB, if_true, Option.map_none]
        exact ⟨rfl, HR.out⟩
      · rw [if_neg hc]
        simp only [Er.val]
        go_wp2_with fail
        go_roundg (Er.er c).len
        case measure => simp [Er.len]
        case rel => exact ⟨.er c, Lib.hid (fun h => by cases h), rfl, rfl, Lib.hid trivial, Lib.hid (by rw [← HG.out]; simp [Er.findB]), rfl⟩
    | er n =>
      have tO := typeOfE
      have aO := asgEB
      have nA := noAsE
      have nS := noUsE
      have nU := noUnE
      simp only [Er.val, ptr'] at *
      go_wp2_with fail
      go_ret
      rw [← HG.out]
      exact ⟨rfl, HR.out⟩
    | ot v =>
      have tO := typeOfO
      have aO := asgOB
      have nA := noAsO
      have nS := noUsO
      have nU := noUnO
      simp only [Er.val, ptr'] at *
      go_wp2_with fail
      go_ret
      rw [← HG.out]
      exact ⟨rfl, HR.out⟩
    | inn a d r =>
      have tO := typeOfI
      have aO := asgIB
      have nA := noAsI
      have nS := noUsI
      have hU := hasUnI
      have mU := methodUnI
      simp only [Er.val, ptr'] at *
      go_wp2_with fail
      (refine (unI_some a d _ _ HA.out.1).mono ?_); rintro ev w1 ⟨rfl, rfl⟩
      by_cases hn : r = .no
      · subst hn
        simp only [Er.val]
        go_wp2_with fail
        go_ret
        rw [← HG.out]
        exact ⟨rfl, HR.out⟩
      · have HN := Lib.hid hn
        obtain ⟨D, z, hz⟩ : ∃ D z, r.val = .iface D z := by cases r <;> first | exact absurd rfl hn | exact ⟨_, _, rfl⟩
        rw [hz]
        have HZ := Lib.hid hz
        clear hn hz
        go_wp2_with fail
        go_roundg r.len
        case measure => simp [Er.len]
        case rel => exact ⟨r, HN, rfl, HZ.out.symm, Lib.hid HA.out.2, Lib.hid HG.out, rfl⟩

set_option maxRecDepth 100000 in
set_option maxHeartbeats 4000000 in
theorem as_F (e0 : Er) (tb k : Nat) (old : Value) (w : World) (he : e0 ≠ .no) (hat : e0.At w) (hk : w.cell? ⟨k, 0, none⟩ = some (.pointer (some ⟨tb, 0, none⟩))) (ht : w.cell? ⟨tb, 0, none⟩ = some old) (hf : w.frozen? ⟨tb, 0, none⟩ = false) :
    Calls Tryd.prog 69 #[e0.val, .iface 133 (.pointer (some ⟨tb, 0, none⟩)), .agg #[.pointer (some ⟨5, 133, none⟩), .pointer (some ⟨k, 0, none⟩), .int .u64 150], .iface 180 (.agg #[.pointer (some ⟨5, 87, none⟩)])] w fun ev w' => AsR w tb e0.findF ev w' := by
  have h64 := @run_callFunc_extern Tryd.prog 64 _ ReflectliteType.typeOf Tryd.func64 (by kernel_rfl) (by kernel_rfl) (by kernel_rfl) (by kernel_rfl)
  have h66 := @run_callFunc_extern Tryd.prog 66 _ (fun args => ReflectliteValue.unpack (args.getD 0 (.tuple #[]))) Tryd.func66 (by kernel_rfl) (by kernel_rfl) (by kernel_rfl) (by kernel_rfl)
  have hAT := @run_callFunc_extern Tryd.prog 192 _ (ReflectliteType.relation "AssignableTo" ReflectliteType.assignableTo) Tryd.func192 (by kernel_rfl) (by kernel_rfl) (by kernel_rfl) (by kernel_rfl)
  have hEL := @run_callFunc_extern Tryd.prog 111 _ (ReflectliteValue.method (ReflectliteValue.valueError "reflectlite.Value.Elem" 0) ReflectliteValue.elem) Tryd.func111 (by kernel_rfl) (by kernel_rfl) (by kernel_rfl) (by kernel_rfl)
  have hST := @run_callFunc_extern Tryd.prog 112 _ ReflectliteValue.set Tryd.func112 (by kernel_rfl) (by kernel_rfl) (by kernel_rfl) (by kernel_rfl)
  have mA := methodAssignableTo
  have hkl : k < w.heap.size := cell_lt hk
  have htl : tb < w.heap.size := cell_lt ht
  obtain ⟨wb, hwb⟩ : ∃ wb, w.alloc (.cells #[.pointer (some ⟨5, 133, none⟩), .pointer (some ⟨k, 0, none⟩), .int .u64 150] 141) = wb := ⟨_, rfl⟩
  have hk1 : wb.cell? ⟨k, 0, none⟩ = some (.pointer (some ⟨tb, 0, none⟩)) := by rw [← hwb, World.cell?_alloc_lt _ _ ⟨k, 0, none⟩ hkl]; exact hk
  have ht1 : wb.cell? ⟨tb, 0, none⟩ = some old := by rw [← hwb, World.cell?_alloc_lt _ _ ⟨tb, 0, none⟩ htl]; exact ht
  have hf1 : wb.frozen? ⟨tb, 0, none⟩ = false := by rw [← hwb, World.frozen?_alloc_old _ _ ⟨tb, 0, none⟩ (Nat.ne_of_lt htl)]; exact hf
  have hs1 : wb.heap.size = w.heap.size + 1 := by rw [← hwb]; simp
  have hb1 : Below w.heap.size w wb := by rw [← hwb]; exact (Below.refl _ _).alloc (Nat.le_refl _) _
  have el := elemVPF ⟨k, 0, none⟩ ⟨tb, 0, none⟩ wb hk1
  have st : ∀ v : Option Addr, (ReflectliteValue.set #[.agg #[.pointer (some ⟨5, 87, none⟩), .pointer (some ⟨tb, 0, none⟩), .int .u64 406], .agg #[.pointer (some ⟨5, 87, none⟩), .pointer (some ⟨wb.heap.size, 0, none⟩), .int .u64 150]]).run Tryd.prog (wb.alloc (.cells #[.pointer v] 87)) = .ok (.tuple #[]) ((wb.alloc (.cells #[.pointer v] 87)).setCell ⟨tb, 0, none⟩ (.pointer v)) := fun v =>
    setF ⟨tb, 0, none⟩ ⟨wb.heap.size, 0, none⟩ v old _ (by rw [World.cell?_alloc_at _ _ _ _ (by simp)]; rfl) (by rw [World.cell?_alloc_lt _ _ ⟨tb, 0, none⟩ (by simp; omega)]; exact ht1) (by rw [World.frozen?_alloc_old _ _ ⟨tb, 0, none⟩ (by simp; omega)]; exact hf1)
  have fin : ∀ v : Option Addr, But (· = tb) w ((wb.alloc (.cells #[.pointer v] 87)).setCell ⟨tb, 0, none⟩ (.pointer v)) ∧ ((wb.alloc (.cells #[.pointer v] 87)).setCell ⟨tb, 0, none⟩ (.pointer v)).cell? ⟨tb, 0, none⟩ = some (.pointer v) := fun v =>
    ⟨but_set (C := (· = tb)) ((But.of_below hb1).alloc _) _ rfl _, World.cell?_setCell_same _ _ _ (u := old) (by rw [World.cell?_alloc_lt _ _ ⟨tb, 0, none⟩ (by simp; omega)]; exact ht1)⟩
  have w0 : wb.cell? ⟨w.heap.size, 0, none⟩ = some (.pointer (some ⟨5, 133, none⟩)) := by rw [← hwb]; simp
  have w1 : wb.cell? ⟨w.heap.size, 1, none⟩ = some (.pointer (some ⟨k, 0, none⟩)) := by rw [← hwb]; simp
  have w2 : wb.cell? ⟨w.heap.size, 2, none⟩ = some (.int .u64 150) := by rw [← hwb]; simp
  have HB := Lib.hid hwb
  have HS := Lib.hid hs1
  have HF := Lib.hid fin
  have HR := Lib.hid hb1
  have HT := Lib.hid hat
  have HV := valueOfF
  clear hs1 fin hb1 hat hf1 ht1 hk1 hf ht hk hkl htl
  go_enter Tryd.func69, Tryd.ntmps69
  go_wp2_with fail
  try rw [hwb]
  go_loopg [0] e0.len (fun q s wr => ∃ e : Er, Hid (e ≠ .no) ∧ q = e.len ∧ s = e.val ∧ Hid (e.At wb) ∧ Hid (e.findF = e0.findF) ∧ wr = wb)
  case atStart => exact ⟨e0, Lib.hid he, rfl, rfl, Lib.hid (HT.out.below HR.out), Lib.hid rfl, rfl⟩
  case round =>
    obtain ⟨e, HE, rfl, rfl, HA, HG, rfl⟩ := hrel
    cases e with
    | no => exact absurd rfl HE.out
    | bl a n s nm =>
      have tO := typeOfB
      have aO := asgBF
      have nA := noAsB
      have nS := noUsB
      have hU := hasUnB
      have mU := methodUnB
      simp only [Er.val, ptr'] at *
      go_wp2_with fail
      (refine (unB_some a _).mono ?_); rintro ev w1 ⟨rfl, rfl⟩
      go_wp2_with fail
      go_roundg (Er.er 33).len
      case measure => simp [Er.len]
      case rel => exact ⟨.er 33, Lib.hid (fun h => by cases h), rfl, rfl, Lib.hid trivial, Lib.hid HG.out, rfl⟩
    | nb  =>
      have tO := typeOfB
      have aO := asgBF
      have nA := noAsB
      have nS := noUsB
      have hU := hasUnB
      have mU := methodUnB
      simp only [Er.val, ptr'] at *
      go_wp2_with fail
      (refine (unB_none _).mono ?_); rintro ev w1 ⟨rfl, rfl⟩
      go_wp2_with fail
      go_ret
      rw [← HG.out]
      exact ⟨rfl, HR.out⟩
    | fa a c =>
      have tO := typeOfF
      have aO := asgFF
      have nA := noAsF
      have nS := noUsF
      have hU := hasUnF
      have mU := methodUnF
      simp only [Er.val, ptr'] at *
      have s1 := st (some ⟨a, 0, none⟩)
      go_wp2_with fail
      go_ret
      rw [← HG.out]
      exact ⟨rfl, HF.out (some ⟨a, 0, none⟩)⟩
    | er n =>
      have tO := typeOfE
      have aO := asgEF
      have nA := noAsE
      have nS := noUsE
      have nU := noUnE
      simp only [Er.val, ptr'] at *
      go_wp2_with fail
      go_ret
      rw [← HG.out]
      exact ⟨rfl, HR.out⟩
    | ot v =>
      have tO := typeOfO
      have aO := asgOF
      have nA := noAsO
      have nS := noUsO
      have nU := noUnO
      simp only [Er.val, ptr'] at *
      go_wp2_with fail
      go_ret
      rw [← HG.out]
      exact ⟨rfl, HR.out⟩
    | inn a d r =>
      have tO := typeOfI
      have aO := asgIF
      have nA := noAsI
      have nS := noUsI
      have hU := hasUnI
      have mU := methodUnI
      simp only [Er.val, ptr'] at *
      go_wp2_with fail
      (refine (unI_some a d _ _ HA.out.1).mono ?_); rintro ev w1 ⟨rfl, rfl⟩
      by_cases hn : r = .no
      · subst hn
        simp only [Er.val]
        go_wp2_with fail
        go_ret
        rw [← HG.out]
        exact ⟨rfl, HR.out⟩
      · have HN := Lib.hid hn
        obtain ⟨D, z, hz⟩ : ∃ D z, r.val = .iface D z := by cases r <;> first | exact absurd rfl hn | exact ⟨_, _, rfl⟩
        rw [hz]
        have HZ := Lib.hid hz
        clear hn hz
        go_wp2_with fail
        go_roundg r.len
        case measure => simp [Er.len]
        case rel => exact ⟨r, HN, rfl, HZ.out.symm, Lib.hid HA.out.2, Lib.hid HG.out, rfl⟩

set_option maxRecDepth 100000 in
set_option maxHeartbeats 4000000 in
theorem as_I (e0 : Er) (tb k : Nat) (old : Value) (w : World) (he : e0 ≠ .no) (hat : e0.At w) (hk : w.cell? ⟨k, 0, none⟩ = some (.pointer (some ⟨tb, 0, none⟩))) (ht : w.cell? ⟨tb, 0, none⟩ = some old) (hf : w.frozen? ⟨tb, 0, none⟩ = false) :
    Calls Tryd.prog 69 #[e0.val, .iface 57 (.pointer (some ⟨tb, 0, none⟩)), .agg #[.pointer (some ⟨5, 57, none⟩), .pointer (some ⟨k, 0, none⟩), .int .u64 150], .iface 180 (.agg #[.pointer (some ⟨5, 55, none⟩)])] w fun ev w' => AsR w tb e0.findI ev w' := by
  have h64 := @run_callFunc_extern Tryd.prog 64 _ ReflectliteType.typeOf Tryd.func64 (by kernel_rfl) (by kernel_rfl) (by kernel_rfl) (by kernel_rfl)
  have h66 := @run_callFunc_extern Tryd.prog 66 _ (fun args => ReflectliteValue.unpack (args.getD 0 (.tuple #[]))) Tryd.func66 (by kernel_rfl) (by kernel_rfl) (by kernel_rfl) (by kernel_rfl)
  have hAT := @run_callFunc_extern Tryd.prog 192 _ (ReflectliteType.relation "AssignableTo" ReflectliteType.assignableTo) Tryd.func192 (by kernel_rfl) (by kernel_rfl) (by kernel_rfl) (by kernel_rfl)
  have hEL := @run_callFunc_extern Tryd.prog 111 _ (ReflectliteValue.method (ReflectliteValue.valueError "reflectlite.Value.Elem" 0) ReflectliteValue.elem) Tryd.func111 (by kernel_rfl) (by kernel_rfl) (by kernel_rfl) (by kernel_rfl)
  have hST := @run_callFunc_extern Tryd.prog 112 _ ReflectliteValue.set Tryd.func112 (by kernel_rfl) (by kernel_rfl) (by kernel_rfl) (by kernel_rfl)
  have mA := methodAssignableTo
  have hkl : k < w.heap.size := cell_lt hk
  have htl : tb < w.heap.size := cell_lt ht
  obtain ⟨wb, hwb⟩ : ∃ wb, w.alloc (.cells #[.pointer (some ⟨5, 57, none⟩), .pointer (some ⟨k, 0, none⟩), .int .u64 150] 141) = wb := ⟨_, rfl⟩
  have hk1 : wb.cell? ⟨k, 0, none⟩ = some (.pointer (some ⟨tb, 0, none⟩)) := by rw [← hwb, World.cell?_alloc_lt _ _ ⟨k, 0, none⟩ hkl]; exact hk
  have ht1 : wb.cell? ⟨tb, 0, none⟩ = some old := by rw [← hwb, World.cell?_alloc_lt _ _ ⟨tb, 0, none⟩ htl]; exact ht
  have hf1 : wb.frozen? ⟨tb, 0, none⟩ = false := by rw [← hwb, World.frozen?_alloc_old _ _ ⟨tb, 0, none⟩ (Nat.ne_of_lt htl)]; exact hf
  have hs1 : wb.heap.size = w.heap.size + 1 := by rw [← hwb]; simp
  have hb1 : Below w.heap.size w wb := by rw [← hwb]; exact (Below.refl _ _).alloc (Nat.le_refl _) _
  have el := elemVPI ⟨k, 0, none⟩ ⟨tb, 0, none⟩ wb hk1
  have st : ∀ v : Option Addr, (ReflectliteValue.set #[.agg #[.pointer (some ⟨5, 55, none⟩), .pointer (some ⟨tb, 0, none⟩), .int .u64 406], .agg #[.pointer (some ⟨5, 55, none⟩), .pointer (some ⟨wb.heap.size, 0, none⟩), .int .u64 150]]).run Tryd.prog (wb.alloc (.cells #[.pointer v] 55)) = .ok (.tuple #[]) ((wb.alloc (.cells #[.pointer v] 55)).setCell ⟨tb, 0, none⟩ (.pointer v)) := fun v =>
    setI ⟨tb, 0, none⟩ ⟨wb.heap.size, 0, none⟩ v old _ (by rw [World.cell?_alloc_at _ _ _ _ (by simp)]; rfl) (by rw [World.cell?_alloc_lt _ _ ⟨tb, 0, none⟩ (by simp; omega)]; exact ht1) (by rw [World.frozen?_alloc_old _ _ ⟨tb, 0, none⟩ (by simp; omega)]; exact hf1)
  have fin : ∀ v : Option Addr, But (· = tb) w ((wb.alloc (.cells #[.pointer v] 55)).setCell ⟨tb, 0, none⟩ (.pointer v)) ∧ ((wb.alloc (.cells #[.pointer v] 55)).setCell ⟨tb, 0, none⟩ (.pointer v)).cell? ⟨tb, 0, none⟩ = some (.pointer v) := fun v =>
    ⟨but_set (C := (· = tb)) ((But.of_below hb1).alloc _) _ rfl _, World.cell?_setCell_same _ _ _ (u := old) (by rw [World.cell?_alloc_lt _ _ ⟨tb, 0, none⟩ (by simp; omega)]; exact ht1)⟩
  have w0 : wb.cell? ⟨w.heap.size, 0, none⟩ = some (.pointer (some ⟨5, 57, none⟩)) := by rw [← hwb]; simp
  have w1 : wb.cell? ⟨w.heap.size, 1, none⟩ = some (.pointer (some ⟨k, 0, none⟩)) := by rw [← hwb]; simp
  have w2 : wb.cell? ⟨w.heap.size, 2, none⟩ = some (.int .u64 150) := by rw [← hwb]; simp
  have HB := Lib.hid hwb
  have HS := Lib.hid hs1
  have HF := Lib.hid fin
  have HR := Lib.hid hb1
  have HT := Lib.hid hat
  have HV := valueOfI
  clear hs1 fin hb1 hat hf1 ht1 hk1 hf ht hk hkl htl
  go_enter Tryd.func69, Tryd.ntmps69
  go_wp2_with fail
  try rw [hwb]
  go_loopg [0] e0.len (fun q s wr => ∃ e : Er, Hid (e ≠ .no) ∧ q = e.len ∧ s = e.val ∧ Hid (e.At wb) ∧ Hid (e.findI = e0.findI) ∧ wr = wb)
  case atStart => exact ⟨e0, Lib.hid he, rfl, rfl, Lib.hid (HT.out.below HR.out), Lib.hid rfl, rfl⟩
  case round =>
    obtain ⟨e, HE, rfl, rfl, HA, HG, rfl⟩ := hrel
    cases e with
    | no => exact absurd rfl HE.out
    | bl a n s nm =>
      have tO := typeOfB
      have aO := asgBI
      have nA := noAsB
      have nS := noUsB
      have hU := hasUnB
      have mU := methodUnB
      simp only [Er.val, ptr'] at *
      go_wp2_with fail
      (refine (unB_some a _).mono ?_); rintro ev w1 ⟨rfl, rfl⟩
      go_wp2_with fail
      go_roundg (Er.er 33).len
      case measure => simp [Er.len]
      case rel => exact ⟨.er 33, Lib.hid (fun h => by cases h), rfl, rfl, Lib.hid trivial, Lib.hid HG.out, rfl⟩
    | nb  =>
      have tO := typeOfB
      have aO := asgBI
      have nA := noAsB
      have nS := noUsB
      have hU := hasUnB
      have mU := methodUnB
      simp only [Er.val, ptr'] at *
      go_wp2_with fail
      (refine (unB_none _).mono ?_); rintro ev w1 ⟨rfl, rfl⟩
      go_wp2_with fail
      go_ret
      rw [← HG.out]
      exact ⟨rfl, HR.out⟩
    | fa a c =>
      have tO := typeOfF
      have aO := asgFI
      have nA := noAsF
      have nS := noUsF
      have hU := hasUnF
      have mU := methodUnF
      simp only [Er.val, ptr'] at *
      go_wp2_with fail
      (refine (unF_some a c _ HA.out).mono ?_); rintro ev w1 ⟨rfl, rfl⟩
      by_cases hc : c = 0
      · rw [if_pos hc]
        simp only [Er.val]
        go_wp2_with fail
        go_ret
        rw [← HG.out]
        simp only [Er.findI, if_true, Option.map_none]
        exact ⟨rfl, HR.out⟩
      · rw [if_neg hc]
        simp only [Er.val]
        go_wp2_with fail
        go_roundg (Er.er c).len
        case measure => simp [Er.len]
        case rel => exact ⟨.er c, Lib.hid (fun h => by cases h), rfl, rfl, Lib.hid trivial, Lib.hid (by rw [← HG.out]; simp [Er.findI]), rfl⟩
    | er n =>
      have tO := typeOfE
      have aO := asgEI
      have nA := noAsE
      have nS := noUsE
      have nU := noUnE
      simp only [Er.val, ptr'] at *
      go_wp2_with fail
      go_ret
      rw [← HG.out]
      exact ⟨rfl, HR.out⟩
    | ot v =>
      have tO := typeOfO
      have aO := asgOI
      have nA := noAsO
      have nS := noUsO
      have nU := noUnO
      simp only [Er.val, ptr'] at *
      go_wp2_with fail
      go_ret
      rw [← HG.out]
      exact ⟨rfl, HR.out⟩
    | inn a d r =>
      have tO := typeOfI
      have aO := asgII
      have nA := noAsI
      have nS := noUsI
      have hU := hasUnI
      have mU := methodUnI
      simp only [Er.val, ptr'] at *
      have s1 := st (some ⟨a, 0, none⟩)
      go_wp2_with fail
      go_ret
      rw [← HG.out]
      exact ⟨rfl, HF.out (some ⟨a, 0, none⟩)⟩

set_option maxRecDepth 100000 in
set_option maxHeartbeats 4000000 in
theorem as_E (e0 : Er) (tb k : Nat) (old : Value) (w : World) (he : e0 ≠ .no) (hat : e0.At w) (hk : w.cell? ⟨k, 0, none⟩ = some (.pointer (some ⟨tb, 0, none⟩))) (ht : w.cell? ⟨tb, 0, none⟩ = some old) (hf : w.frozen? ⟨tb, 0, none⟩ = false) :
    Calls Tryd.prog 69 #[e0.val, .iface 130 (.pointer (some ⟨tb, 0, none⟩)), .agg #[.pointer (some ⟨5, 130, none⟩), .pointer (some ⟨k, 0, none⟩), .int .u64 150], .iface 180 (.agg #[.pointer (some ⟨5, 37, none⟩)])] w fun ev w' => AsR w tb e0.findE ev w' := by
  have h64 := @run_callFunc_extern Tryd.prog 64 _ ReflectliteType.typeOf Tryd.func64 (by kernel_rfl) (by kernel_rfl) (by kernel_rfl) (by kernel_rfl)
  have h66 := @run_callFunc_extern Tryd.prog 66 _ (fun args => ReflectliteValue.unpack (args.getD 0 (.tuple #[]))) Tryd.func66 (by kernel_rfl) (by kernel_rfl) (by kernel_rfl) (by kernel_rfl)
  have hAT := @run_callFunc_extern Tryd.prog 192 _ (ReflectliteType.relation "AssignableTo" ReflectliteType.assignableTo) Tryd.func192 (by kernel_rfl) (by kernel_rfl) (by kernel_rfl) (by kernel_rfl)
  have hEL := @run_callFunc_extern Tryd.prog 111 _ (ReflectliteValue.method (ReflectliteValue.valueError "reflectlite.Value.Elem" 0) ReflectliteValue.elem) Tryd.func111 (by kernel_rfl) (by kernel_rfl) (by kernel_rfl) (by kernel_rfl)
  have hST := @run_callFunc_extern Tryd.prog 112 _ ReflectliteValue.set Tryd.func112 (by kernel_rfl) (by kernel_rfl) (by kernel_rfl) (by kernel_rfl)
  have mA := methodAssignableTo
  have hkl : k < w.heap.size := cell_lt hk
  have htl : tb < w.heap.size := cell_lt ht
  obtain ⟨wb, hwb⟩ : ∃ wb, w.alloc (.cells #[.pointer (some ⟨5, 130, none⟩), .pointer (some ⟨k, 0, none⟩), .int .u64 150] 141) = wb := ⟨_, rfl⟩
  have hk1 : wb.cell? ⟨k, 0, none⟩ = some (.pointer (some ⟨tb, 0, none⟩)) := by rw [← hwb, World.cell?_alloc_lt _ _ ⟨k, 0, none⟩ hkl]; exact hk
  have ht1 : wb.cell? ⟨tb, 0, none⟩ = some old := by rw [← hwb, World.cell?_alloc_lt _ _ ⟨tb, 0, none⟩ htl]; exact ht
  have hf1 : wb.frozen? ⟨tb, 0, none⟩ = false := by rw [← hwb, World.frozen?_alloc_old _ _ ⟨tb, 0, none⟩ (Nat.ne_of_lt htl)]; exact hf
  have hs1 : wb.heap.size = w.heap.size + 1 := by rw [← hwb]; simp
  have hb1 : Below w.heap.size w wb := by rw [← hwb]; exact (Below.refl _ _).alloc (Nat.le_refl _) _
  have el := elemVPE ⟨k, 0, none⟩ ⟨tb, 0, none⟩ wb hk1
  have st : ∀ v : Int, (ReflectliteValue.set #[.agg #[.pointer (some ⟨5, 37, none⟩), .pointer (some ⟨tb, 0, none⟩), .int .u64 386], .agg #[.pointer (some ⟨5, 37, none⟩), .pointer (some ⟨wb.heap.size, 0, none⟩), .int .u64 130]]).run Tryd.prog (wb.alloc (.cells #[.int .i64 v] 37)) = .ok (.tuple #[]) ((wb.alloc (.cells #[.int .i64 v] 37)).setCell ⟨tb, 0, none⟩ (.int .i64 v)) := fun v =>
    setE ⟨tb, 0, none⟩ ⟨wb.heap.size, 0, none⟩ v old _ (by rw [World.cell?_alloc_at _ _ _ _ (by simp)]; rfl) (by rw [World.cell?_alloc_lt _ _ ⟨tb, 0, none⟩ (by simp; omega)]; exact ht1) (by rw [World.frozen?_alloc_old _ _ ⟨tb, 0, none⟩ (by simp; omega)]; exact hf1)
  have fin : ∀ v : Int, But (· = tb) w ((wb.alloc (.cells #[.int .i64 v] 37)).setCell ⟨tb, 0, none⟩ (.int .i64 v)) ∧ ((wb.alloc (.cells #[.int .i64 v] 37)).setCell ⟨tb, 0, none⟩ (.int .i64 v)).cell? ⟨tb, 0, none⟩ = some (.int .i64 v) := fun v =>
    ⟨but_set (C := (· = tb)) ((But.of_below hb1).alloc _) _ rfl _, World.cell?_setCell_same _ _ _ (u := old) (by rw [World.cell?_alloc_lt _ _ ⟨tb, 0, none⟩ (by simp; omega)]; exact ht1)⟩
  have w0 : wb.cell? ⟨w.heap.size, 0, none⟩ = some (.pointer (some ⟨5, 130, none⟩)) := by rw [← hwb]; simp
  have w1 : wb.cell? ⟨w.heap.size, 1, none⟩ = some (.pointer (some ⟨k, 0, none⟩)) := by rw [← hwb]; simp
  have w2 : wb.cell? ⟨w.heap.size, 2, none⟩ = some (.int .u64 150) := by rw [← hwb]; simp
  have HB := Lib.hid hwb
  have HS := Lib.hid hs1
  have HF := Lib.hid fin
  have HR := Lib.hid hb1
  have HT := Lib.hid hat
  have HV := valueOfE
  clear hs1 fin hb1 hat hf1 ht1 hk1 hf ht hk hkl htl
  go_enter Tryd.func69, Tryd.ntmps69
  go_wp2_with fail
  try rw [hwb]
  go_loopg [0] e0.len (fun q s wr => ∃ e : Er, Hid (e ≠ .no) ∧ q = e.len ∧ s = e.val ∧ Hid (e.At wb) ∧ Hid (e.findE = e0.findE) ∧ wr = wb)
  case atStart => exact ⟨e0, Lib.hid he, rfl, rfl, Lib.hid (HT.out.below HR.out), Lib.hid rfl, rfl⟩
  case round =>
    obtain ⟨e, HE, rfl, rfl, HA, HG, rfl⟩ := hrel
    cases e with
    | no => exact absurd rfl HE.out
    | bl a n s nm =>
      have tO := typeOfB
      have aO := asgBE
      have nA := noAsB
      have nS := noUsB
      have hU := hasUnB
      have mU := methodUnB
      simp only [Er.val, ptr'] at *
      go_wp2_with fail
      (refine (unB_some a _).mono ?_); rintro ev w1 ⟨rfl, rfl⟩
      go_wp2_with fail
      go_roundg (Er.er 33).len
      case measure => simp [Er.len]
      case rel => exact ⟨.er 33, Lib.hid (fun h => by cases h), rfl, rfl, Lib.hid trivial, Lib.hid HG.out, rfl⟩
    | nb  =>
      have tO := typeOfB
      have aO := asgBE
      have nA := noAsB
      have nS := noUsB
      have hU := hasUnB
      have mU := methodUnB
      simp only [Er.val, ptr'] at *
      go_wp2_with fail
      (refine (unB_none _).mono ?_); rintro ev w1 ⟨rfl, rfl⟩
      go_wp2_with fail
      go_ret
      rw [← HG.out]
      exact ⟨rfl, HR.out⟩
    | fa a c =>
      have tO := typeOfF
      have aO := asgFE
      have nA := noAsF
      have nS := noUsF
      have hU := hasUnF
      have mU := methodUnF
      simp only [Er.val, ptr'] at *
      go_wp2_with fail
      (refine (unF_some a c _ HA.out).mono ?_); rintro ev w1 ⟨rfl, rfl⟩
      by_cases hc : c = 0
      · rw [if_pos hc]
        simp only [Er.val]
        go_wp2_with fail
        go_ret
        rw [← HG.out]
        simp only [Er.findE, Er.code, hc, if_true, Option.map_none]
        exact ⟨rfl, HR.out⟩
      · rw [if_neg hc]
        simp only [Er.val]
        go_wp2_with fail
        go_roundg (Er.er c).len
        case measure => simp [Er.len]
        case rel => exact ⟨.er c, Lib.hid (fun h => by cases h), rfl, rfl, Lib.hid trivial, Lib.hid (by rw [← HG.out]; simp [Er.findE, Er.code, hc]), rfl⟩
    | er n =>
      have tO := typeOfE
      have aO := asgEE
      have nA := noAsE
      have nS := noUsE
      have nU := noUnE
      simp only [Er.val, ptr'] at *
      have s1 := st n
      go_wp2_with fail
      go_ret
      rw [← HG.out]
      exact ⟨rfl, HF.out n⟩
    | ot v =>
      have tO := typeOfO
      have aO := asgOE
      have nA := noAsO
      have nS := noUsO
      have nU := noUnO
      simp only [Er.val, ptr'] at *
      go_wp2_with fail
      go_ret
      rw [← HG.out]
      exact ⟨rfl, HR.out⟩
    | inn a d r =>
      have tO := typeOfI
      have aO := asgIE
      have nA := noAsI
      have nS := noUsI
      have hU := hasUnI
      have mU := methodUnI
      simp only [Er.val, ptr'] at *
      go_wp2_with fail
      (refine (unI_some a d _ _ HA.out.1).mono ?_); rintro ev w1 ⟨rfl, rfl⟩
      by_cases hn : r = .no
      · subst hn
        simp only [Er.val]
        go_wp2_with fail
        go_ret
        rw [← HG.out]
        exact ⟨rfl, HR.out⟩
      · have HN := Lib.hid hn
        obtain ⟨D, z, hz⟩ : ∃ D z, r.val = .iface D z := by cases r <;> first | exact absurd rfl hn | exact ⟨_, _, rfl⟩
        rw [hz]
        have HZ := Lib.hid hz
        clear hn hz
        go_wp2_with fail
        go_roundg r.len
        case measure => simp [Er.len]
        case rel => exact ⟨r, HN, rfl, HZ.out.symm, Lib.hid HA.out.2, Lib.hid HG.out, rfl⟩
end Go.Proofs.YtkebplifkkhhlaaDoor.F
