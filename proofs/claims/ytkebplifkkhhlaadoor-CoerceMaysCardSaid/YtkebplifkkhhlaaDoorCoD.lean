/- Contracts: coerce.tree, May, height, Height. -/
import Derived.Test.YtkebplifkkhhlaaDoorCoC
namespace Go.Proofs.YtkebplifkkhhlaaDoor.C
open Go.RowKit Go.Proofs.YtkebplifkkhhlaaDoor.B
set_option linter.unusedVariables false
set_option linter.unusedSimpArgs false

def TreeQ (R : Option Co) (w : World) (e : Ending) (w' : World) : Prop := Below w.heap.size w w' ∧ match R with
  | none => ∃ v, e = .returned (.tuple #[v, .bool false])
  | some t => ∃ v, e = .returned (.tuple #[v, .bool true]) ∧ VCo w' (w.heap.size ≤ ·) t v

def wholeC : Option (Co × List Nd) → Option Co
  | some (t, []) => some t
  | _ => none
theorem treeC_whole (l : List Nd) : treeC l = wholeC (readC 64 l) := by
  unfold treeC wholeC
  rcases readC 64 l with _ | ⟨t, _ | ⟨x, r⟩⟩ <;> rfl

theorem tree_any (l : List Nd) (A : Option Addr) (c : Nat) (w : World) (hl : l.length ≤ c) (hc : c ≤ maxLen) (hA : LN w A l) :
    Calls Tryd.prog 88 #[.slice A l.length c] w fun e w' => TreeQ (treeC l) w e w' := by
  have h : Calls Tryd.prog 114 #[.slice A l.length c, .int .i64 1] w fun e w' => ReadQ w.heap.size (readC 64 l) w e w' := read_any 64 l A c 1 w.heap.size w (by omega) hl hc (Nat.le_refl _) hA
  rw [treeC_whole l]
  obtain ⟨R, hR⟩ : ∃ R, readC 64 l = R := ⟨_, rfl⟩
  rw [hR] at h ⊢
  obtain ⟨L, hL⟩ : ∃ L, l.length = L := ⟨_, rfl⟩
  rw [hL] at h ⊢
  clear hA hR hL hl hc
  go_enter Tryd.func88, Tryd.ntmps88
  go_wp2_with fail
  (refine h.mono ?_); rintro ev w1 ⟨hb, hq⟩
  clear h
  rcases R with _ | ⟨t, r⟩
  · simp only at hq
    subst hq
    go_wp2_with fail
    go_ret2
    exact ⟨hb, _, rfl⟩
  · obtain ⟨v, A3, c3, rfl, _, _, hv, _⟩ := hq
    obtain ⟨D, z, rfl⟩ := hv.face
    have HV := Lib.hid hv
    clear hv
    cases r with
    | nil =>
      go_wp2_with fail
      go_ret2
      exact ⟨hb, _, rfl, HV.out⟩
    | cons x r =>
      have hne : (((x :: r).length : Int) == 0) = false := by simp; omega
      obtain ⟨M, hM⟩ : ∃ M, (x :: r).length = M := ⟨_, rfl⟩
      rw [hM] at hne ⊢
      clear hM
      go_wp2_with fail
      go_ret2
      exact ⟨hb, _, rfl⟩

theorem may_any (l : List Nd) (A : Option Addr) (c : Nat) (w : World) (hl : l.length ≤ c) (hc : c ≤ maxLen) (hA : LN w A l) :
    Calls Tryd.prog 39 #[.slice A l.length c] w fun e w' => e = .returned (.bool (treeC l).isSome) ∧ Below w.heap.size w w' := by
  have h := tree_any l A c w hl hc hA
  generalize treeC l = R at *
  clear hA hl hc
  go_enter Tryd.func39, Tryd.ntmps39
  go_wp2_with fail
  (refine h.mono ?_); rintro ev w1 ⟨hb, hq⟩
  clear h
  rcases R with _ | t
  · obtain ⟨v, rfl⟩ := hq
    go_wp2_with fail
    go_ret
    exact ⟨rfl, hb⟩
  · obtain ⟨v, rfl, _⟩ := hq
    go_wp2_with fail
    go_ret
    exact ⟨rfl, hb⟩

/-! ### What a value of 'co' is asked to be -/
def zPart : Value := .agg #[.int .i64 0, .bool false, .int .u8 0, .slice none 0 0]
def zFail : Value := .agg #[.int .i64 0, .int .i64 0, .int .u8 0, .int .u8 0]
section
variable (v : Value) (w : World)
theorem tAP : (Instr.typeAssert (.iface 250 v) 152 227 true).run Tryd.prog w = .ok (.tuple #[zPart, .bool false]) w := by kernel_rfl
theorem tFP : (Instr.typeAssert (.iface 224 v) 152 227 true).run Tryd.prog w = .ok (.tuple #[zPart, .bool false]) w := by kernel_rfl
theorem tPP : (Instr.typeAssert (.iface 227 v) 152 227 true).run Tryd.prog w = .ok (.tuple #[v, .bool true]) w := by kernel_rfl
theorem tAF : (Instr.typeAssert (.iface 250 v) 152 224 true).run Tryd.prog w = .ok (.tuple #[zFail, .bool false]) w := by kernel_rfl
theorem tFF : (Instr.typeAssert (.iface 224 v) 152 224 true).run Tryd.prog w = .ok (.tuple #[v, .bool true]) w := by kernel_rfl
theorem tPF : (Instr.typeAssert (.iface 227 v) 152 224 true).run Tryd.prog w = .ok (.tuple #[zFail, .bool false]) w := by kernel_rfl
theorem tAA : (Instr.typeAssert (.iface 250 v) 152 250 true).run Tryd.prog w = .ok (.tuple #[v, .bool true]) w := by kernel_rfl
theorem tFA : (Instr.typeAssert (.iface 224 v) 152 250 true).run Tryd.prog w = .ok (.tuple #[.agg #[], .bool false]) w := by kernel_rfl
theorem tPA : (Instr.typeAssert (.iface 227 v) 152 250 true).run Tryd.prog w = .ok (.tuple #[.agg #[], .bool false]) w := by kernel_rfl
end

/-- Kid j of a part in memory. -/
def kidT (a b : Co) (j : Nat) : Co := if j = 0 then a else b
theorem kid_at {w : World} {C : Nat → Prop} {n j : Nat} {A : Option Addr} {va vb : Value} {a b : Co} (hn : n ≤ 2) (hj : j < n) (h : Kd w C A ([va, vb].take n)) (ha : VCo w C a va) (hb : VCo w C b vb) :
    ∃ g o v, A = some ⟨g, o, none⟩ ∧ w.cell? ⟨g, o + j, none⟩ = some v ∧ g < w.heap.size ∧ VCo w C (kidT a b j) v := by
  rcases h with h | ⟨g, o, rfl, _, hc⟩
  · have := congrArg List.length h; simp at this; omega
  · rcases j with _ | j
    · have hx := hc 0 va (by rcases n with _ | n; omega; rfl)
      exact ⟨g, o, va, rfl, hx, lt_cell hx, ha⟩
    · obtain rfl : j = 0 := by omega
      have hx := hc 1 vb (by rcases n with _ | _ | n; omega; omega; rfl)
      exact ⟨g, o, vb, rfl, hx, lt_cell hx, hb⟩

def hiK (a b : Co) : Nat → Nat
  | 0 => 0
  | 1 => a.high
  | _ + 2 => max a.high b.high
theorem high_part (p : Int) (j : Bool) (h : Int) (a b : Co) : (Co.part p j h a b).high = hiK a b (opsN h) + 1 := by
  simp only [Co.high]
  rcases opsN_le h with h0 | h0 | h0 <;> rw [h0] <;> rfl
theorem hiK_next {a b : Co} {j : Nat} (hj : j < 2) : hiK a b (j + 1) = max (hiK a b j) (kidT a b j).high := by
  rcases j with _ | _ | j
  · simp [hiK, kidT]
  · simp [hiK, kidT]
  · omega
theorem hiK_le (a b : Co) (j : Nat) : hiK a b j ≤ max a.high b.high := by
  rcases j with _ | _ | j <;> simp only [hiK] <;> omega

set_option maxRecDepth 100000 in
theorem height_any (t : Co) : ∀ (v : Value) (C : Nat → Prop) (w : World), VCo w C t v → t.high ≤ 1000000 →
    Calls Tryd.prog 99 #[v] w fun e w' => e = .returned (.int .i64 t.high) ∧ Below w.heap.size w w' := by
  induction t with
  | any =>
    intro v C w hv _
    simp only [VCo] at hv
    subst hv
    have m1 := tAP (.agg #[])
    unfold zPart at m1
    go_enter Tryd.func99, Tryd.ntmps99
    go_wp2_with fail
    go_ret
    exact ⟨rfl, bal b0 _⟩
  | fail p l f q =>
    intro v C w hv _
    simp only [VCo] at hv
    subst hv
    have m1 := tFP (.agg #[.int .i64 p, .int .i64 l, .int .u8 f, .int .u8 q])
    unfold zPart at m1
    go_enter Tryd.func99, Tryd.ntmps99
    go_wp2_with fail
    go_ret
    exact ⟨rfl, bal b0 _⟩
  | part p j hh a b iha ihb =>
    intro v C w hv hbig
    simp only [VCo] at hv
    obtain ⟨A, c, va, vb, rfl, hc1, hc2, hk, hva, hvb⟩ := hv
    rw [high_part] at hbig ⊢
    have hih : ∀ j v C w, VCo w C (kidT a b j) v → (kidT a b j).high ≤ 1000000 → Calls Tryd.prog 99 #[v] w fun e w' => e = .returned (.int .i64 (kidT a b j).high) ∧ Below w.heap.size w w' := by
      intro j
      unfold kidT
      split
      · exact iha
      · exact ihb
    have hn2 : opsN hh ≤ 2 := by have := opsN_le hh; omega
    obtain ⟨n, hn⟩ : ∃ n, opsN hh = n := ⟨_, rfl⟩
    rw [hn] at hbig hn2 hc1 hk ⊢
    have hnx : ∀ j, j < n → hiK a b (j + 1) = max (hiK a b j) (kidT a b j).high ∧ (kidT a b j).high ≤ 1000000 := by
      intro j hj
      have e := hiK_next (a := a) (b := b) (show j < 2 by omega)
      refine ⟨e, ?_⟩
      have : hiK a b (j + 1) ≤ hiK a b n := by
        rcases j with _ | _ | j
        · rcases n with _ | _ | _ | n
          · omega
          · exact Nat.le_refl _
          · simp only [hiK]; omega
          · omega
        · rcases n with _ | _ | _ | n
          · omega
          · omega
          · exact Nat.le_refl _
          · omega
        · omega
      omega
    have HNX := Lib.hid hnx
    have HIH := Lib.hid hih
    have HK := Lib.hid (And.intro hk (And.intro hva hvb))
    have m1 := tPP (.agg #[.int .i64 p, .bool j, .int .u8 hh, .slice A n c])
    clear hnx hih hk hva hvb iha ihb hn
    go_enter Tryd.func99, Tryd.ntmps99
    go_wp2_with fail
    go_loopg [3, 17] n (fun g m i wr => ∃ k : Nat, k ≤ n ∧ g = n - k ∧ m = .int .i64 (hiK a b k) ∧ i = .int .i64 k ∧ Below w.heap.size w wr)
    case atStart => exact ⟨0, by omega, rfl, rfl, rfl, bal b0 _⟩
    case round =>
      obtain ⟨k, hk, rfl, rfl, rfl, hb⟩ := hrel
      have HB := Lib.hid hb
      clear hb
      by_cases hlt : k < n
      · obtain ⟨hka, hkva, hkvb⟩ := HK.out
        obtain ⟨g, o, x, rfl, hcx, hgl, hvx⟩ := kid_at hn2 hlt hka hkva hkvb
        have hcx2 : wr.cell? ⟨g, o + k, none⟩ = some x := (HB.out.cell (p := ⟨g, o + k, none⟩) hgl).trans hcx
        obtain ⟨hnx, hsm⟩ := HNX.out k hlt
        have hcall := HIH.out k x C wr (hvx.below HB.out) hsm
        obtain ⟨D, z, rfl⟩ := hvx.face
        obtain ⟨X, hX⟩ : ∃ X, hiK a b k = X := ⟨_, rfl⟩
        obtain ⟨Y, hY⟩ : ∃ Y, (kidT a b k).high = Y := ⟨_, rfl⟩
        rw [hX] at hnx ⊢
        rw [hY] at hnx hcall
        have HN := Lib.hid hnx
        clear hnx hX hY hka hkva hkvb hvx hcx hgl
        go_wp2_with fail
        (refine hcall.mono ?_); rintro e w2 ⟨rfl, hb2⟩
        clear hcall
        go_wp2_with fail
        all_goals
          go_roundg (n - (k + 1))
          case measure => omega
          case rel => exact ⟨k + 1, by omega, rfl, by rw [HN.out]; first | rw [Nat.max_eq_right (by omega)] | rw [Nat.max_eq_left (by omega)], by go_num, bl HB.out hb2⟩
      · obtain rfl : k = n := by omega
        have hsm : hiK a b k ≤ 1000000 := by omega
        go_wp2_with fail
        go_ret
        exact ⟨by go_num, HB.out⟩

/-- Height: 0 where there is no tree. -/
def highC (l : List Nd) : Nat := match treeC l with
  | none => 0
  | some t => t.high
theorem Height_c (l : List Nd) (A : Option Addr) (c : Nat) (w : World) (hl : l.length ≤ c) (hc : c ≤ maxLen) (hA : LN w A l) :
    Calls Tryd.prog 51 #[.slice A l.length c] w fun e w' => e = .returned (.int .i64 (highC l)) ∧ Below w.heap.size w w' := by
  have h := tree_any l A c w hl hc hA
  have hs : ∀ t, treeC l = some t → t.high ≤ 64 := fun t ht => (treeC_some ht).2.2
  unfold highC
  generalize treeC l = R at *
  clear hA hl hc
  rcases R with _ | t
  · go_enter Tryd.func51, Tryd.ntmps51
    go_wp2_with fail
    (refine h.mono ?_); rintro ev w1 ⟨hb, hq⟩
    obtain ⟨v, rfl⟩ := hq
    go_wp2_with fail
    go_ret
    exact ⟨rfl, hb⟩
  · have ht := hs t rfl
    simp only
    obtain ⟨H, hH⟩ : ∃ H, t.high = H := ⟨_, rfl⟩
    rw [hH] at ht ⊢
    have HH := Lib.hid hH
    clear hH hs
    go_enter Tryd.func51, Tryd.ntmps51
    go_wp2_with fail
    (refine h.mono ?_); rintro ev w1 ⟨hb, hq⟩
    clear h
    obtain ⟨v, rfl, hv⟩ := hq
    have hcall := height_any t v _ w1 hv (by rw [HH.out]; omega)
    rw [HH.out] at hcall
    clear hv
    go_wp2_with fail
    (refine hcall.mono ?_); rintro ev w2 ⟨rfl, hb2⟩
    go_wp2_with fail
    go_ret
    exact ⟨rfl, bl hb hb2⟩
end Go.Proofs.YtkebplifkkhhlaaDoor.C
