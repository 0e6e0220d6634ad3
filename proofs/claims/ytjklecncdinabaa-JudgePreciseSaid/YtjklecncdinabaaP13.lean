/- Parts of this claim: CkK, CkL. -/
import Derived.Test.YtjklecncdinabaaP12
set_option linter.unusedVariables false
set_option linter.unusedSimpArgs false
/- CkK -/
namespace Go.Proofs.Ytjklecncdinabaa.K
open Go.RowKit Go.Proofs.Ytjklecncdinabaa.B Go.Proofs.Ytjklecncdinabaa.T
set_option linter.unusedVariables false
set_option linter.unusedSimpArgs false

/-- The kids' types in memory. -/
def KidsAt (W : World) (A : Option Addr) (ts : List Ty) : Prop := ts = [] ∨ ∃ g, A = some ⟨g, 0, none⟩ ∧ g < W.heap.size ∧ ∀ j t, ts[j]? = some t → W.cell? ⟨g, j, none⟩ = some (.string (str t))
theorem if_dec {p : Prop} [Decidable p] {r : Bool} (h : r = true ↔ p) {α : Type} {x y : α} : (if r = true then x else y) = if p then x else y := by
  by_cases hp : p
  · rw [if_pos hp, if_pos (h.2 hp)]
  · rw [if_neg hp, if_neg (fun e => hp (h.1 e))]
theorem want_if {p : Prop} {r : Bool} (h : r = true ↔ p) {a : Nat} {t : Ty} : want p a (.ok t) = if r = true then .ok t else .bad 23 a := by
  by_cases hp : p
  · rw [want_pos hp, if_pos (h.2 hp)]
  · rw [want_neg hp, if_neg (fun e => hp (h.1 e))]
theorem size64 {x : Ty} (h : okT x) : (str x).size ≤ 64 := by rw [str_size]; exact h.2
theorem str_cell1 {x : Ty} (hx : x.ok) (c : UInt8) (h0 : arB c = 0) : ((str x).toList == [c]) = true ↔ x = .leaf c := by
  have h := strEq hx (y := .leaf c) h0
  rw [str_leafB, Lib.toList_data ⟨#[c]⟩] at h
  exact h


theorem rule_1 (cp kv : Value) (kids nn : Int) (s t u : ByteArray) (ln cl : Int) (ts : List Ty) (a : Nat) (W : World) :
    Calls Try.prog 40 #[cp, .agg #[.int .i8 1, .int .i64 kids, .int .i64 nn, .string s, .string t, .string u, .int .i64 ln, .int .i64 cl], kv, .int .i64 (a : Nat)] W fun e w' => RuleQ (ruleE ⟨1, kids, nn, s, t, u, ln, cl⟩ ts a) W e w' := leaf_x cp kv 1 kids nn s t u ln cl a tI W (by simp)

theorem rule_2 (cp kv : Value) (kids nn : Int) (s t u : ByteArray) (ln cl : Int) (ts : List Ty) (a : Nat) (W : World) :
    Calls Try.prog 40 #[cp, .agg #[.int .i8 2, .int .i64 kids, .int .i64 nn, .string s, .string t, .string u, .int .i64 ln, .int .i64 cl], kv, .int .i64 (a : Nat)] W fun e w' => RuleQ (ruleE ⟨2, kids, nn, s, t, u, ln, cl⟩ ts a) W e w' := leaf_x cp kv 2 kids nn s t u ln cl a tT W (by simp)

theorem rule_3 (cp kv : Value) (kids nn : Int) (s t u : ByteArray) (ln cl : Int) (ts : List Ty) (a : Nat) (W : World) :
    Calls Try.prog 40 #[cp, .agg #[.int .i8 3, .int .i64 kids, .int .i64 nn, .string s, .string t, .string u, .int .i64 ln, .int .i64 cl], kv, .int .i64 (a : Nat)] W fun e w' => RuleQ (ruleE ⟨3, kids, nn, s, t, u, ln, cl⟩ ts a) W e w' := leaf_x cp kv 3 kids nn s t u ln cl a tB W (by simp)

theorem rule_30 (cp : Value) (kids nn : Int) (s t u : ByteArray) (ln cl : Int) (ts : List Ty) (A : Option Addr) (cV a : Nat) (W : World) (hts : ∀ t ∈ ts, okT t) (hl : ts.length = 1) (hc : 1 ≤ cV) (hk : KidsAt W A ts) (ht : isB t = true) (hu : isB u = true) :
    Calls Try.prog 41 #[cp, .agg #[.int .i8 30, .int .i64 kids, .int .i64 nn, .string s, .string t, .string u, .int .i64 ln, .int .i64 cl], .slice A 1 cV, .int .i64 (a : Nat)] W fun e w' => RuleQ (ruleE ⟨30, kids, nn, s, t, u, ln, cl⟩ ts a) W e w' := by
  match ts, hl with
  | [x], _ =>
    obtain ⟨g, rfl, hg, hc0⟩ := hk.resolve_left (by simp)
    have h0 := hc0 0 x rfl
    have k0 := hts x (by simp)
    have hz : W.heap.size = W.heap.size := rfl
    have hr : ruleE ⟨30, kids, nn, s, t, u, ln, cl⟩ [x] a = want (x = ty t) a (.ok (ty u)) := rfl
    rw [hr]
    have q := strEq k0.1 (okT_ty ht).1
    rw [← (ty_spec ht).2.1] at q
    exact cast_x cp 30 kids nn s t u ln cl g cV a (str x) _ W h0 hg hc _ rfl (ty u) (ty_spec hu).2.1 (want_if q)

theorem rule_7 (cp : Value) (kids nn : Int) (s t u : ByteArray) (ln cl : Int) (ts : List Ty) (A : Option Addr) (cV a : Nat) (W : World) (hts : ∀ t ∈ ts, okT t) (hl : ts.length = 2) (hc : 2 ≤ cV) (hk : KidsAt W A ts)  :
    Calls Try.prog 42 #[cp, .agg #[.int .i8 7, .int .i64 kids, .int .i64 nn, .string s, .string t, .string u, .int .i64 ln, .int .i64 cl], .slice A 2 cV, .int .i64 (a : Nat)] W fun e w' => RuleQ (ruleE ⟨7, kids, nn, s, t, u, ln, cl⟩ ts a) W e w' := by
  match ts, hl with
  | [x, y], _ =>
    obtain ⟨g, rfl, hg, hc0⟩ := hk.resolve_left (by simp)
    have h0 := hc0 0 x rfl
    have k0 := hts x (by simp)
    have h1 := hc0 1 y rfl
    have k1 := hts y (by simp)
    have hz : W.heap.size = W.heap.size := rfl
    have hr : ruleE ⟨7, kids, nn, s, t, u, ln, cl⟩ [x, y] a = want (x.head = 62 ∧ x.kids.getD 0 tI = y) a (.ok (x.kids.getD 1 tI)) := rfl
    rw [hr]
    exact call_x cp 7 kids nn s t u ln cl g cV a (str x) (str y) x k0 rfl _ W h0 h1 hg hc y k1 rfl rfl

theorem rule_9 (cp : Value) (kids nn : Int) (s t u : ByteArray) (ln cl : Int) (ts : List Ty) (A : Option Addr) (cV a : Nat) (W : World) (hts : ∀ t ∈ ts, okT t) (hl : ts.length = 3) (hc : 3 ≤ cV) (hk : KidsAt W A ts)  :
    Calls Try.prog 43 #[cp, .agg #[.int .i8 9, .int .i64 kids, .int .i64 nn, .string s, .string t, .string u, .int .i64 ln, .int .i64 cl], .slice A 3 cV, .int .i64 (a : Nat)] W fun e w' => RuleQ (ruleE ⟨9, kids, nn, s, t, u, ln, cl⟩ ts a) W e w' := by
  match ts, hl with
  | [x, y, z], _ =>
    obtain ⟨g, rfl, hg, hc0⟩ := hk.resolve_left (by simp)
    have h0 := hc0 0 x rfl
    have k0 := hts x (by simp)
    have h1 := hc0 1 y rfl
    have k1 := hts y (by simp)
    have h2 := hc0 2 z rfl
    have k2 := hts z (by simp)
    have hz : W.heap.size = W.heap.size := rfl
    have hr : ruleE ⟨9, kids, nn, s, t, u, ln, cl⟩ [x, y, z] a = want (x = tB ∧ y = z) a (.ok y) := rfl
    rw [hr]
    have q1 := str_cell1 k0.1 98 (by decide)
    have q2 := strEq k1.1 k2.1
    exact choice_x cp 9 kids nn s t u ln cl g cV a (str x) (str y) (str z) _ W h0 h1 h2 hg hc _ _ rfl rfl y rfl (want_if (by rw [Bool.and_eq_true]; exact and_congr q1 q2))

theorem rule_18 (cp : Value) (kids nn : Int) (s t u : ByteArray) (ln cl : Int) (ts : List Ty) (A : Option Addr) (cV a : Nat) (W : World) (hts : ∀ t ∈ ts, okT t) (hl : ts.length = 2) (hc : 2 ≤ cV) (hk : KidsAt W A ts)  :
    Calls Try.prog 44 #[cp, .agg #[.int .i8 18, .int .i64 kids, .int .i64 nn, .string s, .string t, .string u, .int .i64 ln, .int .i64 cl], .slice A 2 cV, .int .i64 (a : Nat)] W fun e w' => RuleQ (ruleE ⟨18, kids, nn, s, t, u, ln, cl⟩ ts a) W e w' := by
  match ts, hl with
  | [x, y], _ =>
    obtain ⟨g, rfl, hg, hc0⟩ := hk.resolve_left (by simp)
    have h0 := hc0 0 x rfl
    have k0 := hts x (by simp)
    have h1 := hc0 1 y rfl
    have k1 := hts y (by simp)
    have hz : W.heap.size = W.heap.size := rfl
    have hr : ruleE ⟨18, kids, nn, s, t, u, ln, cl⟩ [x, y] a = made (.bin 44 x y) a := rfl
    rw [hr]
    exact pair_x cp 18 kids nn s t u ln cl g cV a (str x) (str y) _ W h0 h1 hg hc (size64 k0) (size64 k1) (.bin 44 x y) (str_bin _ _ _) rfl

theorem rule_19 (cp : Value) (kids nn : Int) (s t u : ByteArray) (ln cl : Int) (ts : List Ty) (A : Option Addr) (cV a : Nat) (W : World) (hts : ∀ t ∈ ts, okT t) (hl : ts.length = 1) (hc : 1 ≤ cV) (hk : KidsAt W A ts)  :
    Calls Try.prog 45 #[cp, .agg #[.int .i8 19, .int .i64 kids, .int .i64 nn, .string s, .string t, .string u, .int .i64 ln, .int .i64 cl], .slice A 1 cV, .int .i64 (a : Nat)] W fun e w' => RuleQ (ruleE ⟨19, kids, nn, s, t, u, ln, cl⟩ ts a) W e w' := by
  match ts, hl with
  | [x], _ =>
    obtain ⟨g, rfl, hg, hc0⟩ := hk.resolve_left (by simp)
    have h0 := hc0 0 x rfl
    have k0 := hts x (by simp)
    have hz : W.heap.size = W.heap.size := rfl
    have hr : ruleE ⟨19, kids, nn, s, t, u, ln, cl⟩ [x] a = want (x.head = 44) a (.ok (x.kids.getD 0 tI)) := rfl
    rw [hr]
    exact half_19 cp kids nn s t u ln cl g cV a (str x) x k0 rfl _ W h0 hg hc rfl

theorem rule_20 (cp : Value) (kids nn : Int) (s t u : ByteArray) (ln cl : Int) (ts : List Ty) (A : Option Addr) (cV a : Nat) (W : World) (hts : ∀ t ∈ ts, okT t) (hl : ts.length = 1) (hc : 1 ≤ cV) (hk : KidsAt W A ts)  :
    Calls Try.prog 45 #[cp, .agg #[.int .i8 20, .int .i64 kids, .int .i64 nn, .string s, .string t, .string u, .int .i64 ln, .int .i64 cl], .slice A 1 cV, .int .i64 (a : Nat)] W fun e w' => RuleQ (ruleE ⟨20, kids, nn, s, t, u, ln, cl⟩ ts a) W e w' := by
  match ts, hl with
  | [x], _ =>
    obtain ⟨g, rfl, hg, hc0⟩ := hk.resolve_left (by simp)
    have h0 := hc0 0 x rfl
    have k0 := hts x (by simp)
    have hz : W.heap.size = W.heap.size := rfl
    have hr : ruleE ⟨20, kids, nn, s, t, u, ln, cl⟩ [x] a = want (x.head = 44) a (.ok (x.kids.getD 1 tI)) := rfl
    rw [hr]
    exact half_20 cp kids nn s t u ln cl g cV a (str x) x k0 rfl _ W h0 hg hc rfl

theorem rule_22 (cp : Value) (kids nn : Int) (s t u : ByteArray) (ln cl : Int) (ts : List Ty) (A : Option Addr) (cV a : Nat) (W : World) (hts : ∀ t ∈ ts, okT t) (hl : ts.length = 1) (hc : 1 ≤ cV) (hk : KidsAt W A ts)  :
    Calls Try.prog 47 #[cp, .agg #[.int .i8 22, .int .i64 kids, .int .i64 nn, .string s, .string t, .string u, .int .i64 ln, .int .i64 cl], .slice A 1 cV, .int .i64 (a : Nat)] W fun e w' => RuleQ (ruleE ⟨22, kids, nn, s, t, u, ln, cl⟩ ts a) W e w' := by
  match ts, hl with
  | [x], _ =>
    obtain ⟨g, rfl, hg, hc0⟩ := hk.resolve_left (by simp)
    have h0 := hc0 0 x rfl
    have k0 := hts x (by simp)
    have hz : W.heap.size = W.heap.size := rfl
    have hr : ruleE ⟨22, kids, nn, s, t, u, ln, cl⟩ [x] a = want (x.head = 108) a (.ok (x.kids.getD 0 tI)) := rfl
    rw [hr]
    exact of_22 cp kids nn s t u ln cl g cV a (str x) x k0 rfl _ W h0 hg hc rfl

theorem rule_23 (cp : Value) (kids nn : Int) (s t u : ByteArray) (ln cl : Int) (ts : List Ty) (A : Option Addr) (cV a : Nat) (W : World) (hts : ∀ t ∈ ts, okT t) (hl : ts.length = 1) (hc : 1 ≤ cV) (hk : KidsAt W A ts)  :
    Calls Try.prog 47 #[cp, .agg #[.int .i8 23, .int .i64 kids, .int .i64 nn, .string s, .string t, .string u, .int .i64 ln, .int .i64 cl], .slice A 1 cV, .int .i64 (a : Nat)] W fun e w' => RuleQ (ruleE ⟨23, kids, nn, s, t, u, ln, cl⟩ ts a) W e w' := by
  match ts, hl with
  | [x], _ =>
    obtain ⟨g, rfl, hg, hc0⟩ := hk.resolve_left (by simp)
    have h0 := hc0 0 x rfl
    have k0 := hts x (by simp)
    have hz : W.heap.size = W.heap.size := rfl
    have hr : ruleE ⟨23, kids, nn, s, t, u, ln, cl⟩ [x] a = want (x.head = 108) a (.ok x) := rfl
    rw [hr]
    exact of_23 cp kids nn s t u ln cl g cV a (str x) x k0 rfl _ W h0 hg hc rfl

theorem rule_24 (cp : Value) (kids nn : Int) (s t u : ByteArray) (ln cl : Int) (ts : List Ty) (A : Option Addr) (cV a : Nat) (W : World) (hts : ∀ t ∈ ts, okT t) (hl : ts.length = 1) (hc : 1 ≤ cV) (hk : KidsAt W A ts)  :
    Calls Try.prog 47 #[cp, .agg #[.int .i8 24, .int .i64 kids, .int .i64 nn, .string s, .string t, .string u, .int .i64 ln, .int .i64 cl], .slice A 1 cV, .int .i64 (a : Nat)] W fun e w' => RuleQ (ruleE ⟨24, kids, nn, s, t, u, ln, cl⟩ ts a) W e w' := by
  match ts, hl with
  | [x], _ =>
    obtain ⟨g, rfl, hg, hc0⟩ := hk.resolve_left (by simp)
    have h0 := hc0 0 x rfl
    have k0 := hts x (by simp)
    have hz : W.heap.size = W.heap.size := rfl
    have hr : ruleE ⟨24, kids, nn, s, t, u, ln, cl⟩ [x] a = want (x.head = 108) a (.ok tB) := rfl
    rw [hr]
    exact of_24 cp kids nn s t u ln cl g cV a (str x) x k0 rfl _ W h0 hg hc rfl

theorem rule_25 (cp : Value) (kids nn : Int) (s t u : ByteArray) (ln cl : Int) (ts : List Ty) (A : Option Addr) (cV a : Nat) (W : World) (hts : ∀ t ∈ ts, okT t) (hl : ts.length = 2) (hc : 2 ≤ cV) (hk : KidsAt W A ts)  :
    Calls Try.prog 48 #[cp, .agg #[.int .i8 25, .int .i64 kids, .int .i64 nn, .string s, .string t, .string u, .int .i64 ln, .int .i64 cl], .slice A 2 cV, .int .i64 (a : Nat)] W fun e w' => RuleQ (ruleE ⟨25, kids, nn, s, t, u, ln, cl⟩ ts a) W e w' := by
  match ts, hl with
  | [x, y], _ =>
    obtain ⟨g, rfl, hg, hc0⟩ := hk.resolve_left (by simp)
    have h0 := hc0 0 x rfl
    have k0 := hts x (by simp)
    have h1 := hc0 1 y rfl
    have k1 := hts y (by simp)
    have hz : W.heap.size = W.heap.size := rfl
    have hr : ruleE ⟨25, kids, nn, s, t, u, ln, cl⟩ [x, y] a = want (y = .un 108 x) a (.ok y) := rfl
    rw [hr]
    have q := strEq (x := y) (y := .un 108 x) k1.1 ⟨by decide, k0.1⟩
    rw [← str_un] at q
    exact cons_x cp 25 kids nn s t u ln cl g cV a (str x) (str y) _ W h0 h1 hg hc (size64 k0) _ rfl y rfl (want_if q)

theorem rule_26 (cp : Value) (kids nn : Int) (s t u : ByteArray) (ln cl : Int) (ts : List Ty) (A : Option Addr) (cV a : Nat) (W : World) (hts : ∀ t ∈ ts, okT t) (hl : ts.length = 1) (hc : 1 ≤ cV) (hk : KidsAt W A ts)  :
    Calls Try.prog 49 #[cp, .agg #[.int .i8 26, .int .i64 kids, .int .i64 nn, .string s, .string t, .string u, .int .i64 ln, .int .i64 cl], .slice A 1 cV, .int .i64 (a : Nat)] W fun e w' => RuleQ (ruleE ⟨26, kids, nn, s, t, u, ln, cl⟩ ts a) W e w' := by
  match ts, hl with
  | [x], _ =>
    obtain ⟨g, rfl, hg, hc0⟩ := hk.resolve_left (by simp)
    have h0 := hc0 0 x rfl
    have k0 := hts x (by simp)
    have hz : W.heap.size = W.heap.size := rfl
    have hr : ruleE ⟨26, kids, nn, s, t, u, ln, cl⟩ [x] a = made (.un 120 x) a := rfl
    rw [hr]
    exact box_x cp 26 kids nn s t u ln cl g cV a (str x) _ W h0 hg hc (size64 k0) (.un 120 x) (str_un _ _) rfl

theorem rule_27 (cp : Value) (kids nn : Int) (s t u : ByteArray) (ln cl : Int) (ts : List Ty) (A : Option Addr) (cV a : Nat) (W : World) (hts : ∀ t ∈ ts, okT t) (hl : ts.length = 1) (hc : 1 ≤ cV) (hk : KidsAt W A ts)  :
    Calls Try.prog 50 #[cp, .agg #[.int .i8 27, .int .i64 kids, .int .i64 nn, .string s, .string t, .string u, .int .i64 ln, .int .i64 cl], .slice A 1 cV, .int .i64 (a : Nat)] W fun e w' => RuleQ (ruleE ⟨27, kids, nn, s, t, u, ln, cl⟩ ts a) W e w' := by
  match ts, hl with
  | [x], _ =>
    obtain ⟨g, rfl, hg, hc0⟩ := hk.resolve_left (by simp)
    have h0 := hc0 0 x rfl
    have k0 := hts x (by simp)
    have hz : W.heap.size = W.heap.size := rfl
    have hr : ruleE ⟨27, kids, nn, s, t, u, ln, cl⟩ [x] a = want (x.head = 120) a (.ok (x.kids.getD 0 tI)) := rfl
    rw [hr]
    exact get_x cp 27 kids nn s t u ln cl g cV a (str x) x k0 rfl _ W h0 hg hc rfl

theorem rule_28 (cp : Value) (kids nn : Int) (s t u : ByteArray) (ln cl : Int) (ts : List Ty) (A : Option Addr) (cV a : Nat) (W : World) (hts : ∀ t ∈ ts, okT t) (hl : ts.length = 2) (hc : 2 ≤ cV) (hk : KidsAt W A ts)  :
    Calls Try.prog 51 #[cp, .agg #[.int .i8 28, .int .i64 kids, .int .i64 nn, .string s, .string t, .string u, .int .i64 ln, .int .i64 cl], .slice A 2 cV, .int .i64 (a : Nat)] W fun e w' => RuleQ (ruleE ⟨28, kids, nn, s, t, u, ln, cl⟩ ts a) W e w' := by
  match ts, hl with
  | [x, y], _ =>
    obtain ⟨g, rfl, hg, hc0⟩ := hk.resolve_left (by simp)
    have h0 := hc0 0 x rfl
    have k0 := hts x (by simp)
    have h1 := hc0 1 y rfl
    have k1 := hts y (by simp)
    have hz : W.heap.size = W.heap.size := rfl
    have hr : ruleE ⟨28, kids, nn, s, t, u, ln, cl⟩ [x, y] a = want (x = .un 120 y) a (.ok y) := rfl
    rw [hr]
    have q := strEq (x := x) (y := .un 120 y) k0.1 ⟨by decide, k1.1⟩
    rw [← str_un] at q
    exact set_x cp 28 kids nn s t u ln cl g cV a (str x) (str y) _ W h0 h1 hg hc (size64 k1) _ rfl y rfl (want_if q)

theorem rule_10 (cp : Value) (kids nn : Int) (s t u : ByteArray) (ln cl : Int) (ts : List Ty) (A : Option Addr) (cV a : Nat) (W : World) (cb c : Nat) (hts : ∀ t ∈ ts, okT t) (hl : ts.length = 2) (hc : 2 ≤ cV) (hk : KidsAt W A ts) (hcl : Clo W cb c tI tI) :
    Calls Try.prog 62 #[cp, .agg #[.int .i8 10, .int .i64 kids, .int .i64 nn, .string s, .string t, .string u, .int .i64 ln, .int .i64 cl], .slice A 2 cV, .int .i64 (a : Nat), .pointer (some ⟨c, 0, none⟩), .pointer (some ⟨c + 1, 0, none⟩)] W fun e w' => RuleQ (ruleE ⟨10, kids, nn, s, t, u, ln, cl⟩ ts a) W e w' := by
  have hr : ruleE ⟨10, kids, nn, s, t, u, ln, cl⟩ ts a = want (∀ t ∈ ts, t = tI) a (.ok tI) := rfl
  rw [hr]
  obtain ⟨h1, _, _, h4, h5⟩ := hcl
  obtain ⟨g, hg⟩ : ∃ g, ts = [] ∨ (A = some ⟨g, 0, none⟩ ∧ g < W.heap.size ∧ ∀ j t, ts[j]? = some t → W.cell? ⟨g, j, none⟩ = some (.string (str t))) := by
    rcases hk with h | ⟨g, h⟩
    · exact ⟨0, .inl h⟩
    · exact ⟨g, .inr h⟩
  have := all1_any cp ⟨10, kids, nn, s, t, u, ln, cl⟩ ts g cV A a c (c + 1) tI tI W hts (by first | exact okT_I | exact okT_T) hg (by omega) (by omega) h4 h5 (by omega) h1
  rwa [hl] at this

theorem rule_11 (cp : Value) (kids nn : Int) (s t u : ByteArray) (ln cl : Int) (ts : List Ty) (A : Option Addr) (cV a : Nat) (W : World) (cb c : Nat) (hts : ∀ t ∈ ts, okT t) (hl : ts.length = 2) (hc : 2 ≤ cV) (hk : KidsAt W A ts) (hcl : Clo W cb c tI tI) :
    Calls Try.prog 62 #[cp, .agg #[.int .i8 11, .int .i64 kids, .int .i64 nn, .string s, .string t, .string u, .int .i64 ln, .int .i64 cl], .slice A 2 cV, .int .i64 (a : Nat), .pointer (some ⟨c, 0, none⟩), .pointer (some ⟨c + 1, 0, none⟩)] W fun e w' => RuleQ (ruleE ⟨11, kids, nn, s, t, u, ln, cl⟩ ts a) W e w' := by
  have hr : ruleE ⟨11, kids, nn, s, t, u, ln, cl⟩ ts a = want (∀ t ∈ ts, t = tI) a (.ok tI) := rfl
  rw [hr]
  obtain ⟨h1, _, _, h4, h5⟩ := hcl
  obtain ⟨g, hg⟩ : ∃ g, ts = [] ∨ (A = some ⟨g, 0, none⟩ ∧ g < W.heap.size ∧ ∀ j t, ts[j]? = some t → W.cell? ⟨g, j, none⟩ = some (.string (str t))) := by
    rcases hk with h | ⟨g, h⟩
    · exact ⟨0, .inl h⟩
    · exact ⟨g, .inr h⟩
  have := all1_any cp ⟨11, kids, nn, s, t, u, ln, cl⟩ ts g cV A a c (c + 1) tI tI W hts (by first | exact okT_I | exact okT_T) hg (by omega) (by omega) h4 h5 (by omega) h1
  rwa [hl] at this

theorem rule_12 (cp : Value) (kids nn : Int) (s t u : ByteArray) (ln cl : Int) (ts : List Ty) (A : Option Addr) (cV a : Nat) (W : World) (cb c : Nat) (hts : ∀ t ∈ ts, okT t) (hl : ts.length = 2) (hc : 2 ≤ cV) (hk : KidsAt W A ts) (hcl : Clo W cb c tI tI) :
    Calls Try.prog 62 #[cp, .agg #[.int .i8 12, .int .i64 kids, .int .i64 nn, .string s, .string t, .string u, .int .i64 ln, .int .i64 cl], .slice A 2 cV, .int .i64 (a : Nat), .pointer (some ⟨c, 0, none⟩), .pointer (some ⟨c + 1, 0, none⟩)] W fun e w' => RuleQ (ruleE ⟨12, kids, nn, s, t, u, ln, cl⟩ ts a) W e w' := by
  have hr : ruleE ⟨12, kids, nn, s, t, u, ln, cl⟩ ts a = want (∀ t ∈ ts, t = tI) a (.ok tI) := rfl
  rw [hr]
  obtain ⟨h1, _, _, h4, h5⟩ := hcl
  obtain ⟨g, hg⟩ : ∃ g, ts = [] ∨ (A = some ⟨g, 0, none⟩ ∧ g < W.heap.size ∧ ∀ j t, ts[j]? = some t → W.cell? ⟨g, j, none⟩ = some (.string (str t))) := by
    rcases hk with h | ⟨g, h⟩
    · exact ⟨0, .inl h⟩
    · exact ⟨g, .inr h⟩
  have := all1_any cp ⟨12, kids, nn, s, t, u, ln, cl⟩ ts g cV A a c (c + 1) tI tI W hts (by first | exact okT_I | exact okT_T) hg (by omega) (by omega) h4 h5 (by omega) h1
  rwa [hl] at this

theorem rule_16 (cp : Value) (kids nn : Int) (s t u : ByteArray) (ln cl : Int) (ts : List Ty) (A : Option Addr) (cV a : Nat) (W : World) (cb c : Nat) (hts : ∀ t ∈ ts, okT t) (hl : ts.length = 1) (hc : 1 ≤ cV) (hk : KidsAt W A ts) (hcl : Clo W cb c tI tI) :
    Calls Try.prog 62 #[cp, .agg #[.int .i8 16, .int .i64 kids, .int .i64 nn, .string s, .string t, .string u, .int .i64 ln, .int .i64 cl], .slice A 1 cV, .int .i64 (a : Nat), .pointer (some ⟨c, 0, none⟩), .pointer (some ⟨c + 1, 0, none⟩)] W fun e w' => RuleQ (ruleE ⟨16, kids, nn, s, t, u, ln, cl⟩ ts a) W e w' := by
  have hr : ruleE ⟨16, kids, nn, s, t, u, ln, cl⟩ ts a = want (∀ t ∈ ts, t = tI) a (.ok tI) := rfl
  rw [hr]
  obtain ⟨h1, _, _, h4, h5⟩ := hcl
  obtain ⟨g, hg⟩ : ∃ g, ts = [] ∨ (A = some ⟨g, 0, none⟩ ∧ g < W.heap.size ∧ ∀ j t, ts[j]? = some t → W.cell? ⟨g, j, none⟩ = some (.string (str t))) := by
    rcases hk with h | ⟨g, h⟩
    · exact ⟨0, .inl h⟩
    · exact ⟨g, .inr h⟩
  have := all1_any cp ⟨16, kids, nn, s, t, u, ln, cl⟩ ts g cV A a c (c + 1) tI tI W hts (by first | exact okT_I | exact okT_T) hg (by omega) (by omega) h4 h5 (by omega) h1
  rwa [hl] at this

theorem rule_14 (cp : Value) (kids nn : Int) (s t u : ByteArray) (ln cl : Int) (ts : List Ty) (A : Option Addr) (cV a : Nat) (W : World) (cb c : Nat) (hts : ∀ t ∈ ts, okT t) (hl : ts.length = 2) (hc : 2 ≤ cV) (hk : KidsAt W A ts) (hcl : Clo W cb c tI tB) :
    Calls Try.prog 62 #[cp, .agg #[.int .i8 14, .int .i64 kids, .int .i64 nn, .string s, .string t, .string u, .int .i64 ln, .int .i64 cl], .slice A 2 cV, .int .i64 (a : Nat), .pointer (some ⟨c, 0, none⟩), .pointer (some ⟨c + 1, 0, none⟩)] W fun e w' => RuleQ (ruleE ⟨14, kids, nn, s, t, u, ln, cl⟩ ts a) W e w' := by
  have hr : ruleE ⟨14, kids, nn, s, t, u, ln, cl⟩ ts a = want (∀ t ∈ ts, t = tI) a (.ok tB) := rfl
  rw [hr]
  obtain ⟨h1, _, _, h4, h5⟩ := hcl
  obtain ⟨g, hg⟩ : ∃ g, ts = [] ∨ (A = some ⟨g, 0, none⟩ ∧ g < W.heap.size ∧ ∀ j t, ts[j]? = some t → W.cell? ⟨g, j, none⟩ = some (.string (str t))) := by
    rcases hk with h | ⟨g, h⟩
    · exact ⟨0, .inl h⟩
    · exact ⟨g, .inr h⟩
  have := all1_any cp ⟨14, kids, nn, s, t, u, ln, cl⟩ ts g cV A a c (c + 1) tI tB W hts (by first | exact okT_I | exact okT_T) hg (by omega) (by omega) h4 h5 (by omega) h1
  rwa [hl] at this

theorem rule_15 (cp : Value) (kids nn : Int) (s t u : ByteArray) (ln cl : Int) (ts : List Ty) (A : Option Addr) (cV a : Nat) (W : World) (cb c : Nat) (hts : ∀ t ∈ ts, okT t) (hl : ts.length = 2) (hc : 2 ≤ cV) (hk : KidsAt W A ts) (hcl : Clo W cb c tI tB) :
    Calls Try.prog 62 #[cp, .agg #[.int .i8 15, .int .i64 kids, .int .i64 nn, .string s, .string t, .string u, .int .i64 ln, .int .i64 cl], .slice A 2 cV, .int .i64 (a : Nat), .pointer (some ⟨c, 0, none⟩), .pointer (some ⟨c + 1, 0, none⟩)] W fun e w' => RuleQ (ruleE ⟨15, kids, nn, s, t, u, ln, cl⟩ ts a) W e w' := by
  have hr : ruleE ⟨15, kids, nn, s, t, u, ln, cl⟩ ts a = want (∀ t ∈ ts, t = tI) a (.ok tB) := rfl
  rw [hr]
  obtain ⟨h1, _, _, h4, h5⟩ := hcl
  obtain ⟨g, hg⟩ : ∃ g, ts = [] ∨ (A = some ⟨g, 0, none⟩ ∧ g < W.heap.size ∧ ∀ j t, ts[j]? = some t → W.cell? ⟨g, j, none⟩ = some (.string (str t))) := by
    rcases hk with h | ⟨g, h⟩
    · exact ⟨0, .inl h⟩
    · exact ⟨g, .inr h⟩
  have := all1_any cp ⟨15, kids, nn, s, t, u, ln, cl⟩ ts g cV A a c (c + 1) tI tB W hts (by first | exact okT_I | exact okT_T) hg (by omega) (by omega) h4 h5 (by omega) h1
  rwa [hl] at this

theorem rule_13 (cp : Value) (kids nn : Int) (s t u : ByteArray) (ln cl : Int) (ts : List Ty) (A : Option Addr) (cV a : Nat) (W : World) (cb c : Nat) (hts : ∀ t ∈ ts, okT t) (hl : ts.length = 2) (hc : 2 ≤ cV) (hk : KidsAt W A ts) (hcl : Clo W cb c tT tT) :
    Calls Try.prog 62 #[cp, .agg #[.int .i8 13, .int .i64 kids, .int .i64 nn, .string s, .string t, .string u, .int .i64 ln, .int .i64 cl], .slice A 2 cV, .int .i64 (a : Nat), .pointer (some ⟨c, 0, none⟩), .pointer (some ⟨c + 1, 0, none⟩)] W fun e w' => RuleQ (ruleE ⟨13, kids, nn, s, t, u, ln, cl⟩ ts a) W e w' := by
  have hr : ruleE ⟨13, kids, nn, s, t, u, ln, cl⟩ ts a = want (∀ t ∈ ts, t = tT) a (.ok tT) := rfl
  rw [hr]
  obtain ⟨h1, _, _, h4, h5⟩ := hcl
  obtain ⟨g, hg⟩ : ∃ g, ts = [] ∨ (A = some ⟨g, 0, none⟩ ∧ g < W.heap.size ∧ ∀ j t, ts[j]? = some t → W.cell? ⟨g, j, none⟩ = some (.string (str t))) := by
    rcases hk with h | ⟨g, h⟩
    · exact ⟨0, .inl h⟩
    · exact ⟨g, .inr h⟩
  have := all1_any cp ⟨13, kids, nn, s, t, u, ln, cl⟩ ts g cV A a c (c + 1) tT tT W hts (by first | exact okT_I | exact okT_T) hg (by omega) (by omega) h4 h5 (by omega) h1
  rwa [hl] at this

theorem rule_17 (cp : Value) (kids nn : Int) (s t u : ByteArray) (ln cl : Int) (ts : List Ty) (A : Option Addr) (cV a : Nat) (W : World) (cb c : Nat) (hts : ∀ t ∈ ts, okT t) (hl : ts.length = 1) (hc : 1 ≤ cV) (hk : KidsAt W A ts) (hcl : Clo W cb c tT tI) :
    Calls Try.prog 62 #[cp, .agg #[.int .i8 17, .int .i64 kids, .int .i64 nn, .string s, .string t, .string u, .int .i64 ln, .int .i64 cl], .slice A 1 cV, .int .i64 (a : Nat), .pointer (some ⟨c, 0, none⟩), .pointer (some ⟨c + 1, 0, none⟩)] W fun e w' => RuleQ (ruleE ⟨17, kids, nn, s, t, u, ln, cl⟩ ts a) W e w' := by
  have hr : ruleE ⟨17, kids, nn, s, t, u, ln, cl⟩ ts a = want (∀ t ∈ ts, t = tT) a (.ok tI) := rfl
  rw [hr]
  obtain ⟨h1, _, _, h4, h5⟩ := hcl
  obtain ⟨g, hg⟩ : ∃ g, ts = [] ∨ (A = some ⟨g, 0, none⟩ ∧ g < W.heap.size ∧ ∀ j t, ts[j]? = some t → W.cell? ⟨g, j, none⟩ = some (.string (str t))) := by
    rcases hk with h | ⟨g, h⟩
    · exact ⟨0, .inl h⟩
    · exact ⟨g, .inr h⟩
  have := all1_any cp ⟨17, kids, nn, s, t, u, ln, cl⟩ ts g cV A a c (c + 1) tT tI W hts (by first | exact okT_I | exact okT_T) hg (by omega) (by omega) h4 h5 (by omega) h1
  rwa [hl] at this

theorem rule_21 (cp : Value) (kids nn : Int) (s t u : ByteArray) (ln cl : Int) (ts : List Ty) (A : Option Addr) (K cV a : Nat) (W : World) (hts : ∀ t ∈ ts, okT t) (hl : ts.length = K) (hc : K ≤ cV) (hK : K ≤ 1000000) (hk : KidsAt W A ts) (ht : isB t = true) :
    Calls Try.prog 46 #[cp, .agg #[.int .i8 21, .int .i64 kids, .int .i64 nn, .string s, .string t, .string u, .int .i64 ln, .int .i64 cl], .slice A K cV, .int .i64 (a : Nat)] W fun e w' => RuleQ (ruleE ⟨21, kids, nn, s, t, u, ln, cl⟩ ts a) W e w' := by
  obtain ⟨g, hg⟩ : ∃ g, ts = [] ∨ (A = some ⟨g, 0, none⟩ ∧ g < W.heap.size ∧ ∀ j t, ts[j]? = some t → W.cell? ⟨g, j, none⟩ = some (.string (str t))) := by
    rcases hk with h | ⟨g, h⟩
    · exact ⟨0, .inl h⟩
    · exact ⟨g, .inr h⟩
  exact list_x cp 21 kids nn s t u ln cl ts g cV K A a (ty t) _ W hts (okT_ty ht) (ty_spec ht).2.1 hl hg hc hK rfl
end Go.Proofs.Ytjklecncdinabaa.K

/- CkL -/
namespace Go.Proofs.Ytjklecncdinabaa.K
open Go.RowKit Go.Proofs.Ytjklecncdinabaa.B Go.Proofs.Ytjklecncdinabaa.T
set_option linter.unusedVariables false
set_option linter.unusedSimpArgs false

theorem own_bt {w w' : World} {cb base sz n : Nat} {e : TypeId} {v : Value} {xs : List Value} (h : w.ownsRow base e sz v n xs) (hb : Bt cb w w') (hc : cb < base) : w'.ownsRow base e sz v n xs := by
  have hlt := h.lt
  refine ⟨h.1, ?_⟩
  rcases h.2 with h1 | ⟨g, cap, cur, hv, hbg, hg, r⟩
  · exact .inl h1
  · exact .inr ⟨g, cap, cur, hv, hbg, (hb.block g (hlt g (by rw [hv]; rfl)).2 (by omega)).trans hg, r⟩
theorem own_kids {w : World} {base n : Nat} {v : Value} {ts : List Ty} (h : w.ownsRow base 9 1 v n (ts.map strV)) (hn : ts.length = n) : ∃ A c, v = .slice A n c ∧ n ≤ c ∧ KidsAt w A ts := by
  obtain ⟨A, c, rfl, h1, h2, h3, h4, h5⟩ := Rd.of_own h
  refine ⟨A, c, rfl, h1, ?_⟩
  rcases h5 with h5 | ⟨g, rfl, h5⟩
  · exact .inl (List.eq_nil_of_length_eq_zero (by omega))
  · exact .inr ⟨g, rfl, h4 g rfl, fun j t hj => h5 j _ (by rw [List.getElem?_map, hj]; rfl)⟩
theorem KidsAt.below {w w' : World} {A : Option Addr} {ts : List Ty} (h : KidsAt w A ts) (hb : Below w.heap.size w w') : KidsAt w' A ts := by
  rcases h with h | ⟨g, h1, h2, h3⟩
  · exact .inl h
  · exact .inr ⟨g, h1, Nat.lt_of_lt_of_le h2 hb.size, fun j t hj => (hb.cell (p := ⟨g, j, none⟩) h2).trans (h3 j t hj)⟩

/-- After m kids: the types so far; the trees still to come. -/
def KidsI (L : List Tn) (A : Option Addr) (c mb cb c0 c1 c2 c3 : Nat) (k : Tf) (env : List Ty) (a1 : Nat) (rest : List Tn) (K base m : Nat) (V : Value) (W3 wr : World) : Prop :=
  ∃ (fm : Tf) (tsm : List Ty) (am : Nat), fm.len = K - m ∧ tsm.length = m ∧ (∀ t ∈ tsm, okT t) ∧ fm.All (TypP L A c mb cb c0 c1 c2 c3) ∧ fm.wf ∧ fm.high ≤ k.high ∧ L.drop am = fm.list ++ rest ∧ am + fm.sz = a1 + k.sz ∧
    tyF k false env a1 = (tyF fm false env am).then (fun us => .ok (tsm ++ us)) ∧ Bt cb W3 wr ∧ Chk wr cb A L.length c am (.map (some mb)) ∧ wr.ownsRow base 9 1 V m (tsm.map strV)
theorem castW {kids nn : Int} {s t u : ByteArray} {ln cl : Int} {b : Nat} (h : wordsE ⟨30, kids, nn, s, t, u, ln, cl⟩ b = 0) : isB t = true ∧ isB u = true := by
  unfold wordsE at h
  simp only [show ¬ ((30 : Int) = 2) by decide, show ¬ ((30 : Int) = 3) by decide, show ¬ ((30 : Int) = 4) by decide, show ¬ ((30 : Int) = 21) by decide, show ¬ ((30 : Int) = 5 ∨ (30 : Int) = 6) by decide, if_false, if_true] at h
  split at h
  · rename_i h2; exact h2
  · cases h
theorem listW {kids nn : Int} {s t u : ByteArray} {ln cl : Int} {b : Nat} (h : wordsE ⟨21, kids, nn, s, t, u, ln, cl⟩ b = 0) : isB t = true := by
  unfold wordsE at h
  simp only [show ¬ ((21 : Int) = 2) by decide, show ¬ ((21 : Int) = 3) by decide, show ¬ ((21 : Int) = 4) by decide, if_false, if_true] at h
  split at h
  · rename_i h2; exact h2
  · cases h
theorem Tf.len_le (f : Tf) : f.len ≤ f.sz := by
  induction f with
  | nil => exact Nat.le_refl _
  | cons n k r ihk ihr => simp only [Tf.len, Tf.sz]; omega
theorem Rs.then_id {α : Type} (r : Rs (List α)) : r.then (fun us => .ok ([] ++ us)) = r := by cases r <;> rfl
end Go.Proofs.Ytjklecncdinabaa.K
