/- Parts of this claim: CkA, CkB. -/
import Derived.Test.YtmagljnlfponaaaGreatP01
set_option linter.unusedVariables false
set_option linter.unusedSimpArgs false
/- CkA -/
namespace Go.Proofs.YtmagljnlfponaaaGreat.K
open Go.RowKit Go.Proofs.YtmagljnlfponaaaGreat.B Go.Proofs.YtmagljnlfponaaaGreat.T
set_option linter.unusedVariables false
set_option linter.unusedSimpArgs false

/-- The panic with which a check ends. -/
def Flaw (e a : Int) : Ending := .panicked [{ v := .iface 111 (.agg #[.int .i64 e, .int .i64 a]), recovered := false }]
theorem bodyPost_panic {P : Program} {fn : Func} {R : Ending → World → Prop} {a : Act} {w : World} {ch : List PanicEntry} (hd : a.defers = []) (h : R (.panicked ch) w) : bodyPost P fn R (.panic ch) a w := ⟨hd, h⟩

theorem need_yes (e a : Int) (w : World) : Calls Tryz.prog 53 #[.bool true, .int .i64 e, .int .i64 a] w fun en w' => en = .returned (.tuple #[]) ∧ w = w' := by
  go_enter Tryz.func53, Tryz.ntmps53
  go_wp2_with fail
  go_end0
  exact ⟨rfl, rfl⟩
theorem need_no (e a : Int) (w : World) : Calls Tryz.prog 53 #[.bool false, .int .i64 e, .int .i64 a] w fun en w' => en = Flaw e a ∧ w = w' := by
  go_enter Tryz.func53, Tryz.ntmps53
  go_wp2_with fail
  exact bodyPost_panic rfl ⟨rfl, rfl⟩

def ArQ (k : Int) (w : World) (e : Ending) (w' : World) : Prop := e = .returned (.tuple #[.int .i64 (if arK k = -2 then 0 else arK k), .bool (arK k != -2)]) ∧ w = w'
set_option maxRecDepth 100000 in
theorem arity_some (k : Int) (w : World) (h : k = 1 ∨ k = 2 ∨ k = 3 ∨ k = 4 ∨ k = 5 ∨ k = 6 ∨ k = 16 ∨ k = 17 ∨ k = 19 ∨ k = 20 ∨ k = 22 ∨ k = 23 ∨ k = 24 ∨ k = 26 ∨ k = 27 ∨ k = 30 ∨ k = 7 ∨ k = 8 ∨ k = 10 ∨ k = 11 ∨ k = 12 ∨ k = 13 ∨ k = 14 ∨ k = 15 ∨ k = 18 ∨ k = 25 ∨ k = 28 ∨ k = 9 ∨ k = 21) : Calls Tryz.prog 75 #[.int .i8 k] w fun e w' => ArQ k w e w' := by
  unfold ArQ
  rcases h with rfl | rfl | rfl | rfl | rfl | rfl | rfl | rfl | rfl | rfl | rfl | rfl | rfl | rfl | rfl | rfl | rfl | rfl | rfl | rfl | rfl | rfl | rfl | rfl | rfl | rfl | rfl | rfl | rfl
  all_goals
    go_enter Tryz.func75, Tryz.ntmps75
    go_wp2_with fail
    go_ret2
    exact ⟨rfl, rfl⟩
set_option maxRecDepth 100000 in
theorem arity_none (k : Int) (w : World) (h : ¬ (k = 1 ∨ k = 2 ∨ k = 3 ∨ k = 4 ∨ k = 5 ∨ k = 6 ∨ k = 16 ∨ k = 17 ∨ k = 19 ∨ k = 20 ∨ k = 22 ∨ k = 23 ∨ k = 24 ∨ k = 26 ∨ k = 27 ∨ k = 30 ∨ k = 7 ∨ k = 8 ∨ k = 10 ∨ k = 11 ∨ k = 12 ∨ k = 13 ∨ k = 14 ∨ k = 15 ∨ k = 18 ∨ k = 25 ∨ k = 28 ∨ k = 9 ∨ k = 21)) : Calls Tryz.prog 75 #[.int .i8 k] w fun e w' => ArQ k w e w' := by
  have e : arK k = -2 := by
    unfold arK
    rw [if_neg (by omega), if_neg (by omega), if_neg (by omega), if_neg (by omega), if_neg (by omega)]
  unfold ArQ
  rw [e]
  simp only [not_or] at h
  obtain ⟨h1, h2, h3, h4, h5, h6, h16, h17, h19, h20, h22, h23, h24, h26, h27, h30, h7, h8, h10, h11, h12, h13, h14, h15, h18, h25, h28, h9, h21⟩ := h
  go_enter Tryz.func75, Tryz.ntmps75
  go_wp2_with fail
  go_ret2
  exact ⟨rfl, rfl⟩
theorem arityK_any (k : Int) (w : World) : Calls Tryz.prog 75 #[.int .i8 k] w fun e w' => ArQ k w e w' := by
  by_cases h : k = 1 ∨ k = 2 ∨ k = 3 ∨ k = 4 ∨ k = 5 ∨ k = 6 ∨ k = 16 ∨ k = 17 ∨ k = 19 ∨ k = 20 ∨ k = 22 ∨ k = 23 ∨ k = 24 ∨ k = 26 ∨ k = 27 ∨ k = 30 ∨ k = 7 ∨ k = 8 ∨ k = 10 ∨ k = 11 ∨ k = 12 ∨ k = 13 ∨ k = 14 ∨ k = 15 ∨ k = 18 ∨ k = 25 ∨ k = 28 ∨ k = 9 ∨ k = 21
  · exact arity_some k w h
  · exact arity_none k w h

theorem goodK_any (s : ByteArray) (w : World) (hs : s.size ≤ 4611686018427387904) : Calls Tryz.prog 92 #[.string s] w fun e w' => e = .returned (.bool (isB s)) ∧ w = w' := by
  have hc := check_any s w hs
  unfold isB
  generalize checkL s.data.toList = R at *
  obtain ⟨a, b⟩ := R
  simp only at hc ⊢
  go_enter Tryz.func92, Tryz.ntmps92
  go_wp2_with (go_at_call 94; refine hc.mono ?_; rintro e w' ⟨rfl, rfl⟩)
  go_ret
  exact ⟨retV (congrArg Value.bool (by rw [Bool.eq_iff_iff]; simp)), rfl⟩

theorem made_yes (c : Value) (s : ByteArray) (a : Int) (w : World) (h : s.size ≤ 64) : Calls Tryz.prog 77 #[c, .string s, .int .i64 a] w fun e w' => e = .returned (.string s) ∧ w = w' := by
  have h1 : decide ((s.size : Int) ≤ 64) = true := by simp; omega
  have hn := fun W => need_yes 21 a W
  go_enter Tryz.func77, Tryz.ntmps77
  go_wp2_with fail
  (refine (hn _).mono ?_); rintro e w' ⟨rfl, rfl⟩
  go_wp2_with fail
  go_ret
  exact ⟨rfl, rfl⟩
theorem made_no (c : Value) (s : ByteArray) (a : Int) (w : World) (h : ¬ s.size ≤ 64) : Calls Tryz.prog 77 #[c, .string s, .int .i64 a] w fun e w' => e = Flaw 21 a ∧ w = w' := by
  have h1 : decide ((s.size : Int) ≤ 64) = false := by simp; omega
  have hn := fun W => need_no 21 a W
  go_enter Tryz.func77, Tryz.ntmps77
  go_wp2_with fail
  (refine (hn _).mono ?_); rintro e w' ⟨rfl, rfl⟩
  unfold Flaw

  go_wp2_with fail
  exact bodyPost_panic rfl ⟨rfl, rfl⟩

theorem push_any (A : Option Addr) (n c : Nat) (ys : List Value) (Al : Option Addr) (m cl base : Nat) (xs : List Value) (w : World) (ho : w.ownsRow base 9 1 (.slice Al m cl) m xs) (hs : Sl w w.heap.size 1 A n ys) (h1 : ∀ u ∈ ys, u.oneCell' = true) (hb : base ≤ w.heap.size) (hn : n + m ≤ 1000000) :
    Calls Tryz.prog 78 #[.slice A n c, .slice Al m cl] w fun e w' => ∃ V, e = .returned V ∧ w'.ownsRow base 9 1 V (m + n) (xs ++ ys) ∧ w.grownBy w' (Value.slice Al m cl).ownBlock := by
  obtain ⟨i0, hi0, hz0, hz1, hz2⟩ := info_parts info9
  go_enter Tryz.func78, Tryz.ntmps78
  go_wp2_with (at_builtin; refine wpList_append_sl _ rfl (.tmp 5) (.tmp 6) _ rfl base 9 i0 _ 1 16 Tryz.underlying37 hi0 hz0 hz1 hz2 rfl (by omega) (.slice Al m cl) m xs rfl ho w.heap.size A n c ys rfl hs h1 (by simp only [maxLen]; omega) (by omega) hb ?_; intro V' w6 hown6 hg6 hV6)
  go_ret
  exact ⟨_, rfl, hown6, hg6⟩
end Go.Proofs.YtmagljnlfponaaaGreat.K

/- CkB -/
namespace Go.Proofs.YtmagljnlfponaaaGreat.K
open Go.RowKit Go.Proofs.YtmagljnlfponaaaGreat.B Go.Proofs.YtmagljnlfponaaaGreat.T
set_option linter.unusedVariables false
set_option linter.unusedSimpArgs false

/-- A node's cells. -/
def Tn.vs (n : Tn) : List Value := [.int .i8 n.kd, .int .i64 n.kids, .int .i64 n.n, .string n.s, .string n.t, .string n.u, .int .i64 n.ln, .int .i64 n.cl]
def Tn.val (n : Tn) : Value := .agg #[.int .i8 n.kd, .int .i64 n.kids, .int .i64 n.n, .string n.s, .string n.t, .string n.u, .int .i64 n.ln, .int .i64 n.cl]
/-- Texts that Go can hold. -/
def Tn.small (n : Tn) : Prop := n.s.size ≤ 4611686018427387904 ∧ n.t.size ≤ 4611686018427387904 ∧ n.u.size ≤ 4611686018427387904
/-- Nothing is answered, or the check ends. -/
def UnitQ (E : Int) (a : Int) (w : World) (e : Ending) (w' : World) : Prop := e = (if E = 0 then .returned (.tuple #[]) else Flaw E a) ∧ Below w.heap.size w w'

theorem UnitQ.yes {a : Int} {w w' : World} (hb : Below w.heap.size w w') : UnitQ 0 a w (.returned (.tuple #[])) w' := ⟨by simp, hb⟩
theorem UnitQ.no {E a : Int} {w w' : World} (h : E ≠ 0) (hb : Below w.heap.size w w') : UnitQ E a w (.panicked [{ v := .iface 111 (.agg #[.int .i64 E, .int .i64 a]), recovered := false }]) w' := ⟨by rw [if_neg h]; rfl, hb⟩
theorem infoNode : (Tryz.prog.info? 60).map (fun i => (i.zero, i.size, i.bytes)) = some (some (.agg #[.int .i8 0, .int .i64 0, .int .i64 0, .string ⟨#[]⟩, .string ⟨#[]⟩, .string ⟨#[]⟩, .int .i64 0, .int .i64 0]), 8, 88) := by kernel_rfl


section
variable (kids nn : Int) (s t u : ByteArray) (ln cl a : Int) (b : Nat) (w : World)

set_option maxRecDepth 100000 in
set_option maxHeartbeats 2000000 in
theorem words_2  : Calls Tryz.prog 76 #[.agg #[.int .i8 2, .int .i64 kids, .int .i64 nn, .string s, .string t, .string u, .int .i64 ln, .int .i64 cl], .int .i64 a, .int .i64 b] w fun e w' => UnitQ (if s.size ≤ 64 then 0 else 10) a w e w' := by
  by_cases h : s.size ≤ 64
  · rw [if_pos h]
    have h1 : decide ((s.size : Int) ≤ 64) = true := by simp; omega
    clear h
    go_enter Tryz.func76, Tryz.ntmps76
    go_wp2_with fail
    (refine (need_yes 10 a _).mono ?_); rintro e w' ⟨rfl, rfl⟩
    go_wp2_with fail
    go_end0
    exact (UnitQ.yes (bal b0 _))
  · rw [if_neg h]
    have h1 : decide ((s.size : Int) ≤ 64) = false := by simp; omega
    clear h
    go_enter Tryz.func76, Tryz.ntmps76
    go_wp2_with fail
    (refine (need_no 10 a _).mono ?_); rintro e w' ⟨rfl, rfl⟩
    unfold Flaw
    go_wp2_with fail
    exact bodyPost_panic rfl (UnitQ.no (by decide) (bal b0 _))

set_option maxRecDepth 100000 in
set_option maxHeartbeats 2000000 in
theorem words_3  : Calls Tryz.prog 76 #[.agg #[.int .i8 3, .int .i64 kids, .int .i64 nn, .string s, .string t, .string u, .int .i64 ln, .int .i64 cl], .int .i64 a, .int .i64 b] w fun e w' => UnitQ (if nn = 0 ∨ nn = 1 then 0 else 13) a w e w' := by
  by_cases h0 : nn = 0
  · subst h0
    rw [if_pos (.inl rfl)]
    go_enter Tryz.func76, Tryz.ntmps76
    go_wp2_with fail
    (refine (need_yes 13 a _).mono ?_); rintro e w' ⟨rfl, rfl⟩
    go_wp2_with fail
    go_end0
    exact (UnitQ.yes (bal b0 _))
  by_cases h1 : nn = 1
  · subst h1
    rw [if_pos (.inr rfl)]
    go_enter Tryz.func76, Tryz.ntmps76
    go_wp2_with fail
    (refine (need_yes 13 a _).mono ?_); rintro e w' ⟨rfl, rfl⟩
    go_wp2_with fail
    go_end0
    exact (UnitQ.yes (bal b0 _))
  · rw [if_neg (fun h => h.elim h0 h1)]
    have e0 : (nn == 0) = false := by simpa using h0
    have e1 : (nn == 1) = false := by simpa using h1
    clear h0 h1
    go_enter Tryz.func76, Tryz.ntmps76
    go_wp2_with fail
    (refine (need_no 13 a _).mono ?_); rintro e w' ⟨rfl, rfl⟩
    unfold Flaw
    go_wp2_with fail
    exact bodyPost_panic rfl (UnitQ.no (by decide) (bal b0 _))

set_option maxRecDepth 100000 in
set_option maxHeartbeats 2000000 in
theorem words_4  : Calls Tryz.prog 76 #[.agg #[.int .i8 4, .int .i64 kids, .int .i64 nn, .string s, .string t, .string u, .int .i64 ln, .int .i64 cl], .int .i64 a, .int .i64 b] w fun e w' => UnitQ (if 0 ≤ nn ∧ nn < b then 0 else 22) a w e w' := by
  by_cases h0 : 0 ≤ nn
  · have e0 : decide (0 ≤ nn) = true := by simpa using h0
    by_cases h1 : nn < b
    · rw [if_pos ⟨h0, h1⟩]
      have e1 : decide (nn < (b : Int)) = true := by simpa using h1
      clear h0 h1
      go_enter Tryz.func76, Tryz.ntmps76
      go_wp2_with fail
      (refine (need_yes 22 a _).mono ?_); rintro e w' ⟨rfl, rfl⟩
      go_wp2_with fail
      go_end0
      exact (UnitQ.yes (bal b0 _))
    · rw [if_neg (fun h => h1 h.2)]
      have e1 : decide (nn < (b : Int)) = false := by simpa using h1
      clear h0 h1
      go_enter Tryz.func76, Tryz.ntmps76
      go_wp2_with fail
      (refine (need_no 22 a _).mono ?_); rintro e w' ⟨rfl, rfl⟩
      unfold Flaw
      go_wp2_with fail
      exact bodyPost_panic rfl (UnitQ.no (by decide) (bal b0 _))
  · rw [if_neg (fun h => h0 h.1)]
    have e0 : decide (0 ≤ nn) = false := by simpa using h0
    clear h0
    go_enter Tryz.func76, Tryz.ntmps76
    go_wp2_with fail
    (refine (need_no 22 a _).mono ?_); rintro e w' ⟨rfl, rfl⟩
    unfold Flaw
    go_wp2_with fail
    exact bodyPost_panic rfl (UnitQ.no (by decide) (bal b0 _))

set_option maxRecDepth 100000 in
set_option maxHeartbeats 2000000 in
theorem words_21 (ht : t.size ≤ 4611686018427387904) : Calls Tryz.prog 76 #[.agg #[.int .i8 21, .int .i64 kids, .int .i64 nn, .string s, .string t, .string u, .int .i64 ln, .int .i64 cl], .int .i64 a, .int .i64 b] w fun e w' => UnitQ (if isB t = true then 0 else 20) a w e w' := by
  have HT := Lib.hid fun W => goodK_any t W ht
  clear ht
  obtain ⟨r, hr⟩ : ∃ r, isB t = r := ⟨_, rfl⟩
  rw [hr] at HT ⊢
  clear hr
  cases r
  · rw [if_neg (by simp)]
    go_enter Tryz.func76, Tryz.ntmps76
    go_wp2_with fail
    (refine (HT.out _).mono ?_); rintro e w' ⟨rfl, rfl⟩
    go_wp2_with fail
    (refine (need_no 20 a _).mono ?_); rintro e w' ⟨rfl, rfl⟩
    unfold Flaw
    go_wp2_with fail
    exact bodyPost_panic rfl (UnitQ.no (by decide) (bal b0 _))
  · rw [if_pos rfl]
    go_enter Tryz.func76, Tryz.ntmps76
    go_wp2_with fail
    (refine (HT.out _).mono ?_); rintro e w' ⟨rfl, rfl⟩
    go_wp2_with fail
    (refine (need_yes 20 a _).mono ?_); rintro e w' ⟨rfl, rfl⟩
    go_wp2_with fail
    go_end0
    exact (UnitQ.yes (bal b0 _))

set_option maxRecDepth 100000 in
set_option maxHeartbeats 2000000 in
theorem words_5 (ht : t.size ≤ 4611686018427387904) (hu : u.size ≤ 4611686018427387904) : Calls Tryz.prog 76 #[.agg #[.int .i8 5, .int .i64 kids, .int .i64 nn, .string s, .string t, .string u, .int .i64 ln, .int .i64 cl], .int .i64 a, .int .i64 b] w fun e w' => UnitQ (if isB t = true ∧ isB u = true then 0 else 20) a w e w' := by
  have HT := Lib.hid fun W => goodK_any t W ht
  have HU := Lib.hid fun W => goodK_any u W hu
  clear ht hu
  obtain ⟨r, hr⟩ : ∃ r, isB t = r := ⟨_, rfl⟩
  obtain ⟨q, hq⟩ : ∃ q, isB u = q := ⟨_, rfl⟩
  rw [hr] at HT ⊢
  rw [hq] at HU ⊢
  clear hr hq
  have c1 : w.cell? ⟨0, 0, none⟩ = w.cell? ⟨0, 0, none⟩ := rfl
  clear c1
  cases r
  · rw [if_neg (by simp)]
    go_enter Tryz.func76, Tryz.ntmps76
    go_wp2_with fail
    (refine (HT.out _).mono ?_); rintro e w' ⟨rfl, rfl⟩
    go_wp2_with fail
    (refine (need_no 20 a _).mono ?_); rintro e w' ⟨rfl, rfl⟩
    unfold Flaw
    go_wp2_with fail
    exact bodyPost_panic rfl (UnitQ.no (by decide) (bal b0 _))
  cases q
  · rw [if_neg (by simp)]
    go_enter Tryz.func76, Tryz.ntmps76
    go_wp2_with fail
    (refine (HT.out _).mono ?_); rintro e w' ⟨rfl, rfl⟩
    go_wp2_with fail
    (refine (HU.out _).mono ?_); rintro e w' ⟨rfl, rfl⟩
    go_wp2_with fail
    (refine (need_no 20 a _).mono ?_); rintro e w' ⟨rfl, rfl⟩
    unfold Flaw
    go_wp2_with fail
    exact bodyPost_panic rfl (UnitQ.no (by decide) (bal b0 _))
  · rw [if_pos ⟨rfl, rfl⟩]
    go_enter Tryz.func76, Tryz.ntmps76
    go_wp2_with fail
    (refine (HT.out _).mono ?_); rintro e w' ⟨rfl, rfl⟩
    go_wp2_with fail
    (refine (HU.out _).mono ?_); rintro e w' ⟨rfl, rfl⟩
    go_wp2_with fail
    (refine (need_yes 20 a _).mono ?_); rintro e w' ⟨rfl, rfl⟩
    go_wp2_with fail
    go_end0
    exact (UnitQ.yes (bal b0 _))

set_option maxRecDepth 100000 in
set_option maxHeartbeats 2000000 in
theorem words_6 (ht : t.size ≤ 4611686018427387904) (hu : u.size ≤ 4611686018427387904) : Calls Tryz.prog 76 #[.agg #[.int .i8 6, .int .i64 kids, .int .i64 nn, .string s, .string t, .string u, .int .i64 ln, .int .i64 cl], .int .i64 a, .int .i64 b] w fun e w' => UnitQ (if isB t = true ∧ isB u = true then 0 else 20) a w e w' := by
  have HT := Lib.hid fun W => goodK_any t W ht
  have HU := Lib.hid fun W => goodK_any u W hu
  clear ht hu
  obtain ⟨r, hr⟩ : ∃ r, isB t = r := ⟨_, rfl⟩
  obtain ⟨q, hq⟩ : ∃ q, isB u = q := ⟨_, rfl⟩
  rw [hr] at HT ⊢
  rw [hq] at HU ⊢
  clear hr hq
  have c1 : w.cell? ⟨0, 0, none⟩ = w.cell? ⟨0, 0, none⟩ := rfl
  clear c1
  cases r
  · rw [if_neg (by simp)]
    go_enter Tryz.func76, Tryz.ntmps76
    go_wp2_with fail
    (refine (HT.out _).mono ?_); rintro e w' ⟨rfl, rfl⟩
    go_wp2_with fail
    (refine (need_no 20 a _).mono ?_); rintro e w' ⟨rfl, rfl⟩
    unfold Flaw
    go_wp2_with fail
    exact bodyPost_panic rfl (UnitQ.no (by decide) (bal b0 _))
  cases q
  · rw [if_neg (by simp)]
    go_enter Tryz.func76, Tryz.ntmps76
    go_wp2_with fail
    (refine (HT.out _).mono ?_); rintro e w' ⟨rfl, rfl⟩
    go_wp2_with fail
    (refine (HU.out _).mono ?_); rintro e w' ⟨rfl, rfl⟩
    go_wp2_with fail
    (refine (need_no 20 a _).mono ?_); rintro e w' ⟨rfl, rfl⟩
    unfold Flaw
    go_wp2_with fail
    exact bodyPost_panic rfl (UnitQ.no (by decide) (bal b0 _))
  · rw [if_pos ⟨rfl, rfl⟩]
    go_enter Tryz.func76, Tryz.ntmps76
    go_wp2_with fail
    (refine (HT.out _).mono ?_); rintro e w' ⟨rfl, rfl⟩
    go_wp2_with fail
    (refine (HU.out _).mono ?_); rintro e w' ⟨rfl, rfl⟩
    go_wp2_with fail
    (refine (need_yes 20 a _).mono ?_); rintro e w' ⟨rfl, rfl⟩
    go_wp2_with fail
    go_end0
    exact (UnitQ.yes (bal b0 _))

set_option maxRecDepth 100000 in
set_option maxHeartbeats 2000000 in
theorem words_30 (ht : t.size ≤ 4611686018427387904) (hu : u.size ≤ 4611686018427387904) : Calls Tryz.prog 76 #[.agg #[.int .i8 30, .int .i64 kids, .int .i64 nn, .string s, .string t, .string u, .int .i64 ln, .int .i64 cl], .int .i64 a, .int .i64 b] w fun e w' => UnitQ (if isB t = true ∧ isB u = true then (if allT askC (ty t) (ty u) = true then (if 1 ≤ nn ∧ nn ≤ 2147483647 then 0 else 13) else 23) else 20) a w e w' := by
  have HT := Lib.hid fun W => goodK_any t W ht
  have HU := Lib.hid fun W => goodK_any u W hu
  have hco : isB t = true → isB u = true → ∀ W, Calls Tryz.prog 93 #[.string t, .string u] W fun e w' => e = .returned (.bool (allT askC (ty t) (ty u))) ∧ Below W.heap.size W w' := fun h1 h2 W => by
    have a1 := ty_spec h1
    have a2 := ty_spec h2
    have := Cons_yes (ty t) (ty u) W a1.1 a2.1 a1.2.2 a2.2.2
    rwa [← a1.2.1, ← a2.2.1] at this
  have HC := Lib.hid hco
  clear ht hu hco
  obtain ⟨r, hr⟩ : ∃ r, isB t = r := ⟨_, rfl⟩
  obtain ⟨q, hq⟩ : ∃ q, isB u = q := ⟨_, rfl⟩
  rw [hr] at HT HC ⊢
  rw [hq] at HU HC ⊢
  clear hr hq
  cases r
  · rw [if_neg (by simp)]
    go_enter Tryz.func76, Tryz.ntmps76
    go_wp2_with fail
    (refine (HT.out _).mono ?_); rintro e w' ⟨rfl, rfl⟩
    go_wp2_with fail
    (refine (need_no 20 a _).mono ?_); rintro e w' ⟨rfl, rfl⟩
    unfold Flaw
    go_wp2_with fail
    exact bodyPost_panic rfl (UnitQ.no (by decide) (bal b0 _))
  cases q
  · rw [if_neg (by simp)]
    go_enter Tryz.func76, Tryz.ntmps76
    go_wp2_with fail
    (refine (HT.out _).mono ?_); rintro e w' ⟨rfl, rfl⟩
    go_wp2_with fail
    (refine (HU.out _).mono ?_); rintro e w' ⟨rfl, rfl⟩
    go_wp2_with fail
    (refine (need_no 20 a _).mono ?_); rintro e w' ⟨rfl, rfl⟩
    unfold Flaw
    go_wp2_with fail
    exact bodyPost_panic rfl (UnitQ.no (by decide) (bal b0 _))
  have HC1 := Lib.hid (HC.out rfl rfl)
  clear HC
  rw [if_pos ⟨rfl, rfl⟩]
  obtain ⟨c, hc⟩ : ∃ c, allT askC (ty t) (ty u) = c := ⟨_, rfl⟩
  rw [hc] at HC1 ⊢
  clear hc
  obtain ⟨E, hE⟩ : ∃ E : Int, (if c = true then (if 1 ≤ nn ∧ nn ≤ 2147483647 then 0 else 13) else 23) = E := ⟨_, rfl⟩
  rw [hE]
  have HE := Lib.hid hE
  clear hE
  have hbk := Blk.new w 60 #[.int .i8 30, .int .i64 kids, .int .i64 nn, .string s, .string t, .string u, .int .i64 ln, .int .i64 cl]
  have HBK := Lib.hid hbk
  have hsz : w.heap.size < (w.alloc (.cells #[.int .i8 30, .int .i64 kids, .int .i64 nn, .string s, .string t, .string u, .int .i64 ln, .int .i64 cl] 60)).heap.size := hbk.lt
  have HSZ := Lib.hid hsz
  clear hbk hsz
  have pre : True := trivial
  go_enter Tryz.func76, Tryz.ntmps76
  go_wp2_with fail
  (refine (HT.out _).mono ?_); rintro e w' ⟨rfl, rfl⟩
  go_wp2_with fail
  (refine (HU.out _).mono ?_); rintro e w' ⟨rfl, rfl⟩
  go_wp2_with fail
  (refine (need_yes 20 a _).mono ?_); rintro e w' ⟨rfl, rfl⟩
  go_wp2_with fail
  (refine (HC1.out _).mono ?_); rintro e w2 ⟨rfl, hb2⟩
  have hbk2 := HBK.out.below hb2 HSZ.out
  have c2 := (hbk2.cell 2).trans rfl
  have HB := Lib.hid (bl (bal b0 _) hb2)
  clear hbk2 hb2
  go_wp2_with fail
  have hE := HE.out
  clear HE
  cases c
  · rw [if_neg (by simp)] at hE
    subst hE
    (refine (need_no 23 a _).mono ?_); rintro e w' ⟨rfl, rfl⟩
    unfold Flaw
    go_wp2_with fail
    exact bodyPost_panic rfl (UnitQ.no (by decide) (HB.out))
  rw [if_pos rfl] at hE
  (refine (need_yes 23 a _).mono ?_); rintro e w' ⟨rfl, rfl⟩
  by_cases h0 : 1 ≤ nn
  · have e0 : decide (1 ≤ nn) = true := by simpa using h0
    by_cases h1 : nn ≤ 2147483647
    · rw [if_pos ⟨h0, h1⟩] at hE
      subst hE
      have e1 : decide (nn ≤ 2147483647) = true := by simpa using h1
      clear h0 h1
      go_wp2_with fail
      (refine (need_yes 13 a _).mono ?_); rintro e w' ⟨rfl, rfl⟩
      go_wp2_with fail
      go_end0
      exact (UnitQ.yes (HB.out))
    · rw [if_neg (fun h => h1 h.2)] at hE
      subst hE
      have e1 : decide (nn ≤ 2147483647) = false := by simpa using h1
      clear h0 h1
      go_wp2_with fail
      (refine (need_no 13 a _).mono ?_); rintro e w' ⟨rfl, rfl⟩
      unfold Flaw
      go_wp2_with fail
      exact bodyPost_panic rfl (UnitQ.no (by decide) (HB.out))
  · rw [if_neg (fun h => h0 h.1)] at hE
    subst hE
    have e0 : decide (1 ≤ nn) = false := by simpa using h0
    clear h0
    go_wp2_with fail
    (refine (need_no 13 a _).mono ?_); rintro e w' ⟨rfl, rfl⟩
    unfold Flaw
    go_wp2_with fail
    exact bodyPost_panic rfl (UnitQ.no (by decide) (HB.out))

set_option maxRecDepth 100000 in
set_option maxHeartbeats 2000000 in
theorem words_0 (k : Int) (h2 : ¬ k = 2) (h3 : ¬ k = 3) (h4 : ¬ k = 4) (h21 : ¬ k = 21) (h5 : ¬ k = 5) (h6 : ¬ k = 6) (h30 : ¬ k = 30) : Calls Tryz.prog 76 #[.agg #[.int .i8 k, .int .i64 kids, .int .i64 nn, .string s, .string t, .string u, .int .i64 ln, .int .i64 cl], .int .i64 a, .int .i64 b] w fun e w' => UnitQ 0 a w e w' := by
  go_enter Tryz.func76, Tryz.ntmps76
  go_wp2_with fail
  go_end0
  exact (UnitQ.yes (bal b0 _))

end

theorem words_any (n : Tn) (a : Int) (b : Nat) (w : World) (hs : n.small) : Calls Tryz.prog 76 #[n.val, .int .i64 a, .int .i64 b] w fun e w' => UnitQ (wordsE n b) a w e w' := by
  obtain ⟨kd, kids, nn, s, t, u, ln, cl⟩ := n
  obtain ⟨h1, h2, h3⟩ := hs
  simp only at h1 h2 h3
  unfold wordsE Tn.val
  simp only
  by_cases e2 : kd = 2
  · subst e2; rw [if_pos rfl]; exact words_2 kids nn s t u ln cl a b w
  rw [if_neg e2]
  by_cases e3 : kd = 3
  · subst e3; rw [if_pos rfl]; exact words_3 kids nn s t u ln cl a b w
  rw [if_neg e3]
  by_cases e4 : kd = 4
  · subst e4; rw [if_pos rfl]; exact words_4 kids nn s t u ln cl a b w
  rw [if_neg e4]
  by_cases e21 : kd = 21
  · subst e21; rw [if_pos rfl]; exact words_21 kids nn s t u ln cl a b w h2
  rw [if_neg e21]
  by_cases e5 : kd = 5
  · subst e5; rw [if_pos (.inl rfl)]; exact words_5 kids nn s t u ln cl a b w h2 h3
  by_cases e6 : kd = 6
  · subst e6; rw [if_pos (.inr rfl)]; exact words_6 kids nn s t u ln cl a b w h2 h3
  rw [if_neg (fun h => h.elim e5 e6)]
  by_cases e30 : kd = 30
  · subst e30; rw [if_pos rfl]; exact words_30 kids nn s t u ln cl a b w h2 h3
  rw [if_neg e30]
  exact words_0 kids nn s t u ln cl a b w kd e2 e3 e4 e21 e5 e6 e30
end Go.Proofs.YtmagljnlfponaaaGreat.K
