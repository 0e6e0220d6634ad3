/- Contracts: errors.is, errors.Is at a code (printed by gen_errd.py). -/
import Derived.Test.YtkebplifkkhhlaaDoorErrD
namespace Go.Proofs.YtkebplifkkhhlaaDoor.F
open Go.RowKit Go.Extern.Stop Go.Stop Go.Extern Go.Proofs.YtkebplifkkhhlaaDoor.B Go.Proofs.YtkebplifkkhhlaaDoor.La
set_option linter.unusedVariables false
set_option linter.unusedSimpArgs false


theorem comparableE (w : World) : (ReflectliteType.method (fun t => do Rtype.noPackHeld "Comparable" t; (fun a => Value.bool a.comparable) <$> typeInfo t) #[.agg #[.pointer (some ⟨5, 37, none⟩)]]).run Tryd.prog w = .ok (.bool true) w := by kernel_rfl
set_option maxRecDepth 100000 in
set_option maxHeartbeats 4000000 in
theorem is_code (e0 : Er) (k : Int) (w : World) (he : e0 ≠ .no) (hat : e0.At w) :
    Calls Tryd.prog 65 #[e0.val, .iface 37 (.int .i64 k), .bool true] w fun ev w' => ev = .returned (.bool (decide (e0.code = some k))) ∧ w = w' := by
  obtain ⟨wb, hwb⟩ : ∃ wb, w = wb := ⟨_, rfl⟩
  have HB := Lib.hid hwb
  have HT := Lib.hid hat
  clear hwb hat
  go_enter Tryd.func65, Tryd.ntmps65
  go_wp2_with fail
  go_loopg [0] e0.len (fun q s wr => ∃ e : Er, Hid (e ≠ .no) ∧ q = e.len ∧ s = e.val ∧ Hid (e.At w) ∧ Hid (e.code = e0.code) ∧ wr = w)
  case atStart => exact ⟨e0, Lib.hid he, rfl, rfl, HT, Lib.hid rfl, rfl⟩
  case round =>
    obtain ⟨e, HE, rfl, rfl, HA, HG, rfl⟩ := hrel
    cases e with
    | no => exact absurd rfl HE.out
    | bl a n s nm =>
      have nA := noIsB
      have nS := noUsB
      have hU := hasUnB
      have mU := methodUnB
      have hq := fun v w => @run_eql_iface_types Tryd.prog 28 _ 86 37 v (.int .i64 k) Tryd.underlying28 (by decide) w
      simp only [Er.val, ptr'] at *
      go_wp2_with fail
      (refine (unB_some a _).mono ?_); rintro ev w1 ⟨rfl, rfl⟩
      go_wp2_with fail
      go_roundg (Er.er 33).len
      case measure => simp [Er.len]
      case rel => exact ⟨.er 33, Lib.hid (fun h => by cases h), rfl, rfl, Lib.hid trivial, Lib.hid HG.out, rfl⟩
    | nb  =>
      have nA := noIsB
      have nS := noUsB
      have hU := hasUnB
      have mU := methodUnB
      have hq := fun v w => @run_eql_iface_types Tryd.prog 28 _ 86 37 v (.int .i64 k) Tryd.underlying28 (by decide) w
      simp only [Er.val, ptr'] at *
      go_wp2_with fail
      (refine (unB_none _).mono ?_); rintro ev w1 ⟨rfl, rfl⟩
      go_wp2_with fail
      go_ret
      rw [← HG.out]
      exact ⟨by simp [Er.code], rfl⟩
    | fa a c =>
      have nA := noIsF
      have nS := noUsF
      have hU := hasUnF
      have mU := methodUnF
      have hq := fun v w => @run_eql_iface_types Tryd.prog 28 _ 87 37 v (.int .i64 k) Tryd.underlying28 (by decide) w
      simp only [Er.val, ptr'] at *
      go_wp2_with fail
      (refine (unF_some a c _ HA.out).mono ?_); rintro ev w1 ⟨rfl, rfl⟩
      by_cases hc : c = 0
      · rw [if_pos hc]
        simp only [Er.val]
        go_wp2_with fail
        go_ret
        rw [← HG.out]
        simp [Er.code, hc]
      · rw [if_neg hc]
        simp only [Er.val]
        go_wp2_with fail
        go_roundg (Er.er c).len
        case measure => simp [Er.len]
        case rel => exact ⟨.er c, Lib.hid (fun h => by cases h), rfl, rfl, Lib.hid trivial, Lib.hid (by rw [← HG.out]; simp [Er.code, hc]), rfl⟩
    | er m =>
      have nA := noIsE
      have nS := noUsE
      have nU := noUnE
      have hq := fun w => @run_eql_iface_int Tryd.prog w 28 37 _ .i64 m k Tryd.underlying28 Tryd.underlying37 (by kernel_rfl)
      simp only [Er.val, ptr'] at *
      by_cases hmk : m = k
      · subst hmk
        simp only [beq_self_eq_true] at hq
        go_wp2_with fail
        go_ret
        rw [← HG.out]
        exact ⟨by simp [Er.code], rfl⟩
      · have hm2 : (m == k) = false := by simpa using hmk
        simp only [hm2] at hq
        go_wp2_with fail
        go_ret
        rw [← HG.out]
        exact ⟨by simp [Er.code, hmk], rfl⟩
    | ot v =>
      have nA := noIsO
      have nS := noUsO
      have nU := noUnO
      have hq := fun v w => @run_eql_iface_types Tryd.prog 28 _ 148 37 v (.int .i64 k) Tryd.underlying28 (by decide) w
      simp only [Er.val, ptr'] at *
      go_wp2_with fail
      go_ret
      rw [← HG.out]
      exact ⟨by simp [Er.code], rfl⟩
    | inn a d r =>
      have nA := noIsI
      have nS := noUsI
      have hU := hasUnI
      have mU := methodUnI
      have hq := fun v w => @run_eql_iface_types Tryd.prog 28 _ 55 37 v (.int .i64 k) Tryd.underlying28 (by decide) w
      simp only [Er.val, ptr'] at *
      go_wp2_with fail
      (refine (unI_some a d _ _ HA.out.1).mono ?_); rintro ev w1 ⟨rfl, rfl⟩
      by_cases hn : r = .no
      · subst hn
        simp only [Er.val]
        go_wp2_with fail
        go_ret
        rw [← HG.out]
        exact ⟨by simp [Er.code], rfl⟩
      · have HN := Lib.hid hn
        obtain ⟨D, z, hz⟩ : ∃ D z, r.val = .iface D z := Er.face hn
        rw [hz]
        have HZ := Lib.hid hz
        clear hn hz
        go_wp2_with fail
        go_roundg r.len
        case measure => simp [Er.len]
        case rel => exact ⟨r, HN, rfl, HZ.out.symm, Lib.hid HA.out.2, Lib.hid HG.out, rfl⟩

set_option maxRecDepth 100000 in
theorem Is_code (e : Er) (k : Int) (w : World) (hat : e.At w) :
    Calls Tryd.prog 22 #[e.val, .iface 37 (.int .i64 k)] w fun ev w' => ev = .returned (.bool (decide (e.code = some k))) ∧ w = w' := by
  by_cases hno : e = .no
  · subst hno
    have hq := fun w => @run_eql_iface_nil_left Tryd.prog w 28 _ 37 (.int .i64 k) Tryd.underlying28
    simp only [Er.val]
    go_enter Tryd.func22, Tryd.ntmps22
    go_wp2_with fail
    go_ret
    exact ⟨by simp [Er.code], rfl⟩
  have h64 := @run_callFunc_extern Tryd.prog 64 _ ReflectliteType.typeOf Tryd.func64 (by kernel_rfl) (by kernel_rfl) (by kernel_rfl) (by kernel_rfl)
  have hCP := @run_callFunc_extern Tryd.prog 193 _ (ReflectliteType.method fun t => do Rtype.noPackHeld "Comparable" t; pure (.bool (← typeInfo t).comparable)) Tryd.func193 (by kernel_rfl) (by kernel_rfl) (by kernel_rfl) (by kernel_rfl)
  have mC := methodComparable
  have tO := typeOfE
  have cE := comparableE
  have his := is_code e k w hno hat
  obtain ⟨b, hb⟩ : ∃ b, decide (e.code = some k) = b := ⟨_, rfl⟩
  obtain ⟨D, z, hz⟩ := Er.face hno
  rw [hz, hb] at his
  rw [hz, hb]
  clear hz hb hat hno
  go_enter Tryd.func22, Tryd.ntmps22
  go_wp2_with fail
  (refine his.mono ?_); rintro ev w1 ⟨rfl, rfl⟩
  go_wp2_with fail
  go_ret
  exact ⟨rfl, rfl⟩
end Go.Proofs.YtkebplifkkhhlaaDoor.F
