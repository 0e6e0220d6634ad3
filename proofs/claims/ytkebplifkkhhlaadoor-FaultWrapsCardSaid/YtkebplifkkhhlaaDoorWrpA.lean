/- For FaultWraps: sizes, copies of texts, alike; an error within a row of defs, as data. -/
import Derived.Test.YtkebplifkkhhlaaDoorFltK
import Derived.Test.YtkebplifkkhhlaaDoorTxE
import Derived.LaidEql
namespace Go.Proofs.YtkebplifkkhhlaaDoor.F
open Go.RowKit Go.Proofs.YtkebplifkkhhlaaDoor.B Go.Proofs.YtkebplifkkhhlaaDoor.La Go.Proofs.YtkebplifkkhhlaaDoor.T
set_option linter.unusedVariables false
set_option linter.unusedSimpArgs false

def SizeR (e : Ending) : Prop := ∃ S : Nat, e = .returned (.int .i64 S) ∧ S ≤ 4611686018427387904
set_option maxRecDepth 100000 in
theorem sizeTexts_any (l : List ByteArray) (A : Option Addr) (c : Nat) (w : World) (hl : l.length ≤ 140737488355328) (hz : ∀ s ∈ l, s.size ≤ 140737488355328) (hA : Sl w w.heap.size 1 A l.length (tvals l)) :
    Calls Tryd.prog 24 #[.slice A l.length c] w fun e w' => SizeR e ∧ w = w' := by
  have HZ := Lib.hid hz
  go_enter Tryd.func24, Tryd.ntmps24
  go_wp2_with fail
  go_loopg [3, 4] l.length (fun g n i wr => ∃ k S : Nat, k ≤ l.length ∧ g = l.length - k ∧ i = .int .i64 k ∧ n = .int .i64 S ∧ S ≤ 2147483647 + 281474976710656 ∧ wr = w)
  case atStart => exact ⟨0, l.length, by omega, rfl, rfl, rfl, by omega, rfl⟩
  case round =>
    obtain ⟨k, S, hk, rfl, rfl, rfl, hS2, rfl⟩ := hrel
    by_cases h1 : k < l.length
    · obtain ⟨s, hs⟩ : ∃ s, l[k]? = some s := ⟨_, List.getElem?_eq_getElem h1⟩
      obtain ⟨bb, o, rfl, hbb, c0⟩ := text_cell hA (Below.refl _ _) hs
      have hsz := HZ.out s (List.mem_of_getElem? hs)
      by_cases h2 : S ≤ 2147483647
      · go_wp2_with fail
        go_roundg (l.length - (k + 1))
        case measure => omega
        case rel => exact ⟨k + 1, S + s.size, by omega, rfl, by go_num, by go_num, by omega, rfl⟩
      · go_wp2_with fail
        go_ret
        exact ⟨⟨S, rfl, by omega⟩, rfl⟩
    · obtain rfl : k = l.length := by omega
      go_wp2_with fail
      go_ret
      exact ⟨⟨S, rfl, by omega⟩, rfl⟩

theorem long_any (S : Int) (w : World) : Calls Tryd.prog 23 #[.int .i64 S] w fun e w' => (∃ b, e = .returned (.bool b)) ∧ w = w' := by
  go_enter Tryd.func23, Tryd.ntmps23
  go_wp2_with fail
  go_ret
  exact ⟨⟨_, rfl⟩, rfl⟩

theorem infoStr : (Tryd.prog.info? 9).map (fun i => (i.zero, i.size, i.bytes)) = some (some (.string ⟨#[]⟩), 1, 16) := by kernel_rfl
theorem tvals_one (l : List ByteArray) : ∀ u ∈ tvals l, u.oneCell' = true := by
  intro u hu
  obtain ⟨s, _, rfl⟩ := List.mem_map.1 hu
  rfl

theorem copyTexts_any (l : List ByteArray) (A : Option Addr) (c : Nat) (w : World) (hl : l.length ≤ 500) (hA : Sl w w.heap.size 1 A l.length (tvals l)) :
    Calls Tryd.prog 29 #[.slice A l.length c] w fun e w' => ∃ A' c', e = .returned (.slice A' l.length c') ∧ Sl w' w'.heap.size 1 A' l.length (tvals l) ∧ Below w.heap.size w w' := by
  obtain ⟨i0, hi0, hz0, hz1, hz2⟩ := info_parts infoStr
  go_enter Tryd.func29, Tryd.ntmps29
  go_wp2_with (at_builtin; refine wpList_append_sl _ rfl (.tmp 4) (.tmp 5) _ rfl w.heap.size 9 i0 _ 1 16 Tryd.underlying45 hi0 hz0 hz1 hz2 rfl (by omega) (.slice none 0 0) 0 [] rfl (World.ownsRow_nil _ _ _ _) w.heap.size A l.length c (tvals l) rfl hA (tvals_one l) (by simp only [maxLen]; omega) (by omega) (Nat.le_refl _) ?_; intro v1 w1 hown hg hat)
  obtain ⟨A', c', hv, _, _, hsl⟩ := Sl.of_own hown
  simp only [Nat.zero_add, List.nil_append] at hv hsl
  rw [hv]
  go_ret
  exact ⟨A', c', rfl, hsl, (Below.refl _ _).grown hg (Nat.le_refl _) (by simp [Value.ownBlock])⟩

/-! ### alike -/
def Er.ptrd : Er → Prop
  | .bl .. => True
  | .fa .. => True
  | .inn .. => True
  | _ => False
theorem info_cmp {i : Option TypeInfo} {b : Bool} (h : i.map (·.comparable) = some b) : ∃ i0, i = some i0 ∧ i0.comparable = b := by
  cases i with
  | none => cases h
  | some i0 => exact ⟨i0, rfl, by simpa using h⟩
theorem info_is {i : Option TypeInfo} (h : i.isSome = true) : ∃ i0, i = some i0 := Option.isSome_iff_exists.1 h
theorem eqPB (a : Addr) (w : World) : (binOp .eql 28 (.iface 86 (.pointer (some a))) (.iface 86 (.pointer (some a)))).run Tryd.prog w = .ok (.bool true) w := by
  obtain ⟨i, hi, hc⟩ := info_cmp (show (Tryd.prog.info? 86).map (·.comparable) = some true by kernel_rfl)
  obtain ⟨j, hj⟩ := info_is (show (Tryd.prog.info? 128).isSome = true by kernel_rfl)
  exact run_eql_iface_ptr_same w a Tryd.underlying28 Tryd.underlying86 hi hc hj
theorem eqPF (a : Addr) (w : World) : (binOp .eql 28 (.iface 87 (.pointer (some a))) (.iface 87 (.pointer (some a)))).run Tryd.prog w = .ok (.bool true) w := by
  obtain ⟨i, hi, hc⟩ := info_cmp (show (Tryd.prog.info? 87).map (·.comparable) = some true by kernel_rfl)
  obtain ⟨j, hj⟩ := info_is (show (Tryd.prog.info? 91).isSome = true by kernel_rfl)
  exact run_eql_iface_ptr_same w a Tryd.underlying28 Tryd.underlying87 hi hc hj
theorem eqPI (a : Addr) (w : World) : (binOp .eql 28 (.iface 55 (.pointer (some a))) (.iface 55 (.pointer (some a)))).run Tryd.prog w = .ok (.bool true) w := by
  obtain ⟨i, hi, hc⟩ := info_cmp (show (Tryd.prog.info? 55).map (·.comparable) = some true by kernel_rfl)
  obtain ⟨j, hj⟩ := info_is (show (Tryd.prog.info? 59).isSome = true by kernel_rfl)
  exact run_eql_iface_ptr_same w a Tryd.underlying28 Tryd.underlying55 hi hc hj

theorem alike_any (e : Er) (w : World) (h : e.ptrd) : Calls Tryd.prog 27 #[e.val, e.val] w fun ev w' => ev = .returned (.bool true) ∧ w = w' := by
  have hB := eqPB
  have hF := eqPF
  have hI := eqPI
  cases e with
  | bl a n s nm =>
    simp only [Er.val, ptr']
    clear h
    go_enter Tryd.func27, Tryd.ntmps27
    go_wp2_with fail
    go_ret
    exact ⟨rfl, rfl⟩
  | fa a c =>
    simp only [Er.val, ptr']
    clear h
    go_enter Tryd.func27, Tryd.ntmps27
    go_wp2_with fail
    go_ret
    exact ⟨rfl, rfl⟩
  | inn a d r =>
    simp only [Er.val, ptr']
    clear h
    go_enter Tryd.func27, Tryd.ntmps27
    go_wp2_with fail
    go_ret
    exact ⟨rfl, rfl⟩
  | no => exact absurd h id
  | nb => exact absurd h id
  | er n => exact absurd h id
  | ot v => exact absurd h id

theorem wrapS_any (d : ByteArray) (e : Er) (w : World) (hat : e.At w) (hno : e ≠ .no) :
    Calls Tryd.prog 25 #[.string d, e.val] w fun ev w' => ev = .returned (.iface 55 (.pointer (some ⟨w.heap.size, 0, none⟩))) ∧ (Er.inn w.heap.size d e).At w' ∧ Below w.heap.size w w' :=
  (wrap_any d e w hat).mono fun ev w' ⟨u, h1, h2, h3, _, h5⟩ => by
    obtain rfl := h5 hno
    exact ⟨h1, h2, h3⟩

/-! ### Rows of defs around an error -/
def Chn : List ByteArray → Er → Er → Prop
  | [], e0, e => e = e0
  | d :: ds, e0, e => ∃ a r, e = .inn a d r ∧ Chn ds e0 r
theorem Chn.lab : ∀ {ds : List ByteArray} {e0 e : Er}, Chn ds e0 e → e.lab = e0.lab
  | [], _, _, h => by rw [show _ = _ from h]
  | _ :: _, _, _, ⟨a, r, h1, h2⟩ => by rw [h1]; show r.lab = _; exact Chn.lab h2
theorem Chn.code : ∀ {ds : List ByteArray} {e0 e : Er}, Chn ds e0 e → e.code = e0.code
  | [], _, _, h => by rw [show _ = _ from h]
  | _ :: _, _, _, ⟨a, r, h1, h2⟩ => by rw [h1]; show r.code = _; exact Chn.code h2
theorem Chn.defs : ∀ {ds : List ByteArray} {e0 e : Er}, Chn ds e0 e → e.defs = ds ++ e0.defs
  | [], _, _, h => by rw [show _ = _ from h]; rfl
  | _ :: _, _, _, ⟨a, r, h1, h2⟩ => by rw [h1]; show _ :: r.defs = _; rw [Chn.defs h2]; rfl
theorem Chn.dep : ∀ {ds : List ByteArray} {e0 e : Er}, Chn ds e0 e → e.dep = ds.length + e0.dep
  | [], _, _, h => by rw [show _ = _ from h]; simp
  | _ :: ds, _, _, ⟨a, r, h1, h2⟩ => by rw [h1]; show r.dep + 1 = _; rw [Chn.dep h2]; simp; omega
theorem Chn.ptrd {ds : List ByteArray} {e0 e : Er} (h : Chn ds e0 e) (h0 : e0.ptrd) : e.ptrd := by
  cases ds with
  | nil => rw [show e = e0 from h]; exact h0
  | cons d ds => obtain ⟨a, r, rfl, _⟩ := h; trivial
theorem Chn.step {ds : List ByteArray} {e0 e : Er} {k a : Nat} {d : ByteArray} (hd : ds[k]? = some d) (h : Chn (ds.drop (k + 1)) e0 e) : Chn (ds.drop k) e0 (.inn a d e) := by
  obtain ⟨h1, h2⟩ := List.getElem?_eq_some_iff.1 hd
  rw [List.drop_eq_getElem_cons h1, h2]
  exact ⟨a, e, rfl, h⟩
theorem Er.ptrd_no {e : Er} (h : e.ptrd) : e ≠ .no := by rintro rfl; exact h
theorem ptrd_of {e : Er} {D : Wn} (h : e.is D) (hk : wnK D ≠ 0) : e.ptrd := by
  cases D with
  | none => exact absurd rfl hk
  | code c => obtain ⟨a, rfl⟩ := h; trivial
  | blame n s nm => obtain ⟨a, rfl⟩ := h; trivial
theorem wnT_size {D : Wn} (ok : WnOk D) : (wnT D).size ≤ 140737488351300 := by
  cases D with
  | none => show 0 ≤ _; omega
  | code c =>
    have := itoaS_size c (by have := ok.1; omega) (by have := ok.2; omega)
    simp only [wnT, faultT, ByteArray.size_append]
    show 6 + _ ≤ _; omega
  | blame n s nm =>
    obtain ⟨_, k1, k2, k3⟩ := ok
    have := itoaS_size n k1 k2
    simp only [wnT, blameT, ByteArray.size_append]
    show 6 + _ + 1 + _ ≤ _; omega
end Go.Proofs.YtkebplifkkhhlaaDoor.F
