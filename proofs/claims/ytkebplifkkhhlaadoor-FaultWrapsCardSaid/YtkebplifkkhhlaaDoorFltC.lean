/- Contracts: fault.defs, Defs; errors.New; the law's code (printed by gen_fltc.py). -/
import Derived.Test.YtkebplifkkhhlaaDoorFltB
namespace Go.Proofs.YtkebplifkkhhlaaDoor.F
open Go.RowKit Go.Proofs.YtkebplifkkhhlaaDoor.B Go.Proofs.YtkebplifkkhhlaaDoor.La
set_option linter.unusedVariables false
set_option linter.unusedSimpArgs false

def Er.defs : Er → List ByteArray
  | .inn _ d r => d :: r.defs
  | _ => []
def Er.dep : Er → Nat
  | .inn _ _ r => r.dep + 1
  | .bl .. => 2
  | .fa .. => 2
  | .no => 0
  | _ => 1

theorem info9 : (Tryd.prog.info? 9).map (fun i => (i.zero, i.size, i.bytes)) = some (some (.string ⟨#[]⟩), 1, 16) := by kernel_rfl

theorem new_any (s : ByteArray) (w : World) : Calls Tryd.prog 38 #[.string s] w fun ev w' => ev = .returned (Er.ot (some ⟨w.heap.size, 0, none⟩)).val ∧ Below w.heap.size w w' := by
  go_enter Tryd.func38, Tryd.ntmps38
  go_wp2_with fail
  go_ret
  exact ⟨rfl, (Below.refl _ _).alloc (Nat.le_refl _) _⟩

/-- An error that is a code, or -1. -/
def Er.kod : Er → Int
  | .er n => n
  | _ => -1

theorem kod_any (e : Er) (w : World) : Calls Tryd.prog 63 #[e.val] w fun ev w' => ev = .returned (.int .i64 e.kod) ∧ w = w' := by
  cases e with
  | no  =>
    have t1 := taNE
    simp only [Er.val, Er.kod]
    go_enter Tryd.func63, Tryd.ntmps63
    go_wp2_with fail
    go_ret
    exact ⟨rfl, rfl⟩
  | bl a n s nm =>
    have t1 := taBE
    simp only [Er.val, Er.kod]
    go_enter Tryd.func63, Tryd.ntmps63
    go_wp2_with fail
    go_ret
    exact ⟨rfl, rfl⟩
  | nb  =>
    have t1 := taBE
    simp only [Er.val, Er.kod]
    go_enter Tryd.func63, Tryd.ntmps63
    go_wp2_with fail
    go_ret
    exact ⟨rfl, rfl⟩
  | fa a c =>
    have t1 := taFE
    simp only [Er.val, Er.kod]
    go_enter Tryd.func63, Tryd.ntmps63
    go_wp2_with fail
    go_ret
    exact ⟨rfl, rfl⟩
  | er n =>
    have t1 := taEE
    simp only [Er.val, Er.kod]
    go_enter Tryd.func63, Tryd.ntmps63
    go_wp2_with fail
    go_ret
    exact ⟨rfl, rfl⟩
  | ot v =>
    have t1 := taOE
    simp only [Er.val, Er.kod]
    go_enter Tryd.func63, Tryd.ntmps63
    go_wp2_with fail
    go_ret
    exact ⟨rfl, rfl⟩
  | inn a d r =>
    have t1 := taIE
    simp only [Er.val, Er.kod]
    go_enter Tryd.func63, Tryd.ntmps63
    go_wp2_with fail
    go_ret
    exact ⟨rfl, rfl⟩

set_option maxRecDepth 100000 in
set_option maxHeartbeats 2000000 in
theorem defs0_any (e0 : Er) (w : World) (hat : e0.At w) (hdep : e0.dep ≤ 900) :
    Calls Tryd.prog 60 #[e0.val] w fun ev w' => ∃ v, ev = .returned v ∧ w'.ownsRow w.heap.size 9 1 v e0.defs.length (e0.defs.map .string) ∧ Below w.heap.size w w' := by
  obtain ⟨i0, hi0, hz0, hz1, hz2⟩ := info_parts info9
  have HT := Lib.hid hat
  have HD := Lib.hid hdep
  clear hat hdep
  go_enter Tryd.func60, Tryd.ntmps60
  go_wp2_with fail
  go_loopg [0, 3, 4] e0.len (fun q s l i wr => ∃ (e : Er) (k : Nat) (pre : List ByteArray), q = e.len ∧ s = e.val ∧ i = .int .i64 k ∧ Hid (k + e.dep ≤ 900) ∧ Hid (e.At w) ∧ Hid (pre ++ e.defs = e0.defs) ∧ Hid (pre.length ≤ k) ∧ wr.ownsRow w.heap.size 9 1 l pre.length (pre.map .string) ∧ Below w.heap.size w wr)
  case atStart => exact ⟨e0, 0, [], rfl, rfl, rfl, Lib.hid (by rw [Nat.zero_add]; exact HD.out), HT, Lib.hid rfl, Lib.hid (Nat.le_refl _), World.ownsRow_nil _ _ _ _, Below.refl _ _⟩
  case round =>
    obtain ⟨e, k, pre, rfl, rfl, rfl, HK, HA, HP, HL, hown, hbel⟩ := hrel
    have HO := Lib.hid hown
    have HB := Lib.hid hbel
    clear hown hbel
    have hk9 : k ≤ 900 := by have := HK.out; omega
    cases e with
    | no =>
      have hfin : pre = e0.defs := by have := HP.out; simpa [Er.defs] using this
      simp only [Er.val]
      go_wp2_with fail
      go_ret
      exact ⟨_, rfl, by rw [← hfin]; exact HO.out, HB.out⟩
    | er n =>
      have hfin : pre = e0.defs := by have := HP.out; simpa [Er.defs] using this
      have t1 := taEI
      have t2 := noUnE
      simp only [Er.val]
      have hk10 : k < 1000 := by omega
      go_wp2_with fail
      go_ret
      exact ⟨_, rfl, by rw [← hfin]; exact HO.out, HB.out⟩
    | ot v =>
      have hfin : pre = e0.defs := by have := HP.out; simpa [Er.defs] using this
      have t1 := taOI
      have t2 := noUnO
      simp only [Er.val]
      have hk10 : k < 1000 := by omega
      go_wp2_with fail
      go_ret
      exact ⟨_, rfl, by rw [← hfin]; exact HO.out, HB.out⟩
    | bl a n s nm =>
      have t1 := taBI
      have t2 := hasUnB
      have mU := methodUnB
      simp only [Er.val, ptr'] at *
      have hk10 : k < 1000 := by omega
      go_wp2_with fail
      (refine (unB_some a _).mono ?_); rintro ev w1 ⟨rfl, rfl⟩
      go_wp2_with fail
      go_roundg (Er.len (.er 33))
      case measure => simp [Er.len]
      case rel => exact ⟨.er 33, k + 1, pre, rfl, rfl, by go_num, Lib.hid (by have := HK.out; simp [Er.dep] at *; omega), Lib.hid trivial, Lib.hid (by have := HP.out; simpa [Er.defs] using this), Lib.hid (by have := HL.out; omega), HO.out, HB.out⟩
    | nb  =>
      have t1 := taBI
      have t2 := hasUnB
      have mU := methodUnB
      simp only [Er.val, ptr'] at *
      have hk10 : k < 1000 := by omega
      go_wp2_with fail
      (refine (unB_none _).mono ?_); rintro ev w1 ⟨rfl, rfl⟩
      go_wp2_with fail
      go_roundg (Er.len (.no))
      case measure => simp [Er.len]
      case rel => exact ⟨.no, k + 1, pre, rfl, rfl, by go_num, Lib.hid (by have := HK.out; simp [Er.dep] at *; omega), Lib.hid trivial, Lib.hid (by have := HP.out; simpa [Er.defs] using this), Lib.hid (by have := HL.out; omega), HO.out, HB.out⟩
    | fa a c =>
      have t1 := taFI
      have t2 := hasUnF
      have mU := methodUnF
      simp only [Er.val, ptr'] at *
      have hk10 : k < 1000 := by omega
      go_wp2_with fail
      (refine (unF_some a c _ (Er.At.below (e := .fa a c) HB.out HA.out)).mono ?_); rintro ev w1 ⟨rfl, rfl⟩
      by_cases hc : c = 0
      · rw [if_pos hc]
        simp only [Er.val]
        go_wp2_with fail
        go_roundg (Er.len .no)
        case measure => simp [Er.len]
        case rel => exact ⟨.no, k + 1, pre, rfl, rfl, by go_num, Lib.hid (by have := HK.out; simp [Er.dep] at *; omega), Lib.hid trivial, Lib.hid (by have := HP.out; simpa [Er.defs] using this), Lib.hid (by have := HL.out; omega), HO.out, HB.out⟩
      · rw [if_neg hc]
        simp only [Er.val]
        go_wp2_with fail
        go_roundg (Er.len (.er c))
        case measure => simp [Er.len]
        case rel => exact ⟨.er c, k + 1, pre, rfl, rfl, by go_num, Lib.hid (by have := HK.out; simp [Er.dep] at *; omega), Lib.hid trivial, Lib.hid (by have := HP.out; simpa [Er.defs] using this), Lib.hid (by have := HL.out; omega), HO.out, HB.out⟩
    | inn a d r =>
      have t1 := taII
      have t2 := hasUnI
      have mU := methodUnI
      have hb0 := (Er.At.below (e := .inn a d r) HB.out HA.out).1
      have c0 := hb0.cell 0
      simp only [List.getElem?_toArray, List.getElem?_cons_zero] at c0
      obtain ⟨pl, hpl⟩ : ∃ pl, pre.length = pl := ⟨_, rfl⟩
      have hown := HO.out
      rw [hpl] at hown
      have HPL := Lib.hid hpl
      have hlk := HL.out
      rw [hpl] at hlk
      clear hb0 hpl HO
      simp only [Er.val, ptr']
      have hk10 : k < 1000 := by omega
      go_wp2_with (first
        | (at_builtin; refine wpList_append_sl _ rfl (.tmp 27) (.tmp 32) 45 rfl w.heap.size 9 i0 _ 1 16 Tryd.underlying45 hi0 hz0 hz1 hz2 rfl (by omega) _ pl _ rfl (hown.alloc _) (wr.heap.size + 1) _ 1 1 [.string d] rfl (Sl.one _ _ _) ?_ ?_ ?_ ?_ ?_))
      · intro u hu; simp at hu; subst hu; rfl
      · unfold maxLen; omega
      · omega
      · have := HB.out.size; simp; omega
      intro v1 w1 hown1 hg1 hat1
      have hb1 : Below w.heap.size w w1 := (HB.out.alloc HB.out.size _).grown hg1 (by have := HB.out.size; simp; omega) (fun g hg => (hown.lt g hg).1)
      have hun := unI_some a d r.val w1 (Er.At.below (e := .inn a d r) hb1 HA.out).1
      have HO1 := Lib.hid hown1
      have HB1 := Lib.hid hb1
      obtain ⟨z, hz⟩ : ∃ z, r.val = z := ⟨_, rfl⟩
      rw [hz] at hun
      have HZ := Lib.hid hz
      simp only [ptr'] at hun
      clear hz hown hg1 hat1 hown1 hb1 HB c0
      go_wp2_with fail
      (refine hun.mono ?_); rintro ev w2 ⟨rfl, rfl⟩
      go_wp2_with fail
      go_roundg r.len
      case measure => simp [Er.len]
      case rel => exact ⟨r, k + 1, pre ++ [d], rfl, HZ.out.symm, by go_num, Lib.hid (by have := HK.out; simp only [Er.dep] at this; omega), Lib.hid HA.out.2, Lib.hid (by have := HP.out; simpa [Er.defs] using this), Lib.hid (by have := HL.out; simp; omega), by have h1 := HO1.out; rw [← HPL.out] at h1; simpa using h1, HB1.out⟩

theorem defs_any (e0 : Er) (w : World) (hat : e0.At w) (hdep : e0.dep ≤ 900) :
    Calls Tryd.prog 18 #[e0.val] w fun ev w' => ∃ v, ev = .returned v ∧ w'.ownsRow w.heap.size 9 1 v e0.defs.length (e0.defs.map .string) ∧ Below w.heap.size w w' := by
  have h := defs0_any e0 w hat hdep
  obtain ⟨z, hz⟩ : ∃ z, e0.val = z := ⟨_, rfl⟩
  rw [hz] at h ⊢
  go_enter Tryd.func18, Tryd.ntmps18
  go_wp2_with fail
  (refine h.mono ?_); rintro ev w1 ⟨v, rfl, ho, hb⟩
  have HO := Lib.hid ho
  obtain ⟨A, c, rfl, _, _⟩ := own_shape ho
  go_wp2_with fail
  go_ret
  exact ⟨_, rfl, HO.out, hb⟩
end Go.Proofs.YtkebplifkkhhlaaDoor.F
