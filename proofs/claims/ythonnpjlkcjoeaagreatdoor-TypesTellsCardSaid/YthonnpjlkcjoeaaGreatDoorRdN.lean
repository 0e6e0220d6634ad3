/- Contracts of the program's parser: the closures. -/
import Derived.Test.YthonnpjlkcjoeaaGreatDoorRdM
import Derived.Deep.RegionWith
namespace Go.Proofs.YthonnpjlkcjoeaaGreatDoor.T
open Go.RowKit Go.Proofs.YthonnpjlkcjoeaaGreatDoor.B
set_option linter.unusedSimpArgs false
set_option linter.unusedVariables false

theorem grown_dr (w : World) (r : Option Nat) : w.grownBy w.drew r := ⟨rfl, rfl, rfl, Nat.le_refl _, fun _ _ _ => rfl⟩
theorem Prs.dr {W : World} {g B : Nat} {ts : List Tok} {o e q : Int} (h : Prs W g B ts o e q) : Prs W.drew g B ts o e q := h.grown (grown_dr W none)
theorem cell_keep {w w' : World} {g a i : Nat} {v : Value} (h : w.grownBy w' (some g)) (hc : w.cell? ⟨a, i, none⟩ = some v) (ha : a ≠ g) (hl : a < w.heap.size) : w'.cell? ⟨a, i, none⟩ = some v := by
  rw [World.cell?_of_block (h.block a hl (by simpa using fun e => ha e))]
  exact hc
theorem PutR.any {R : Rd} {ts : List Tok} {g B : Nat} {o : Int} {w w' : World} {e : Ending} (h : PutR R g B ts o w e w') :
    ∃ v : ByteArray, e = .returned (.string v) ∧ v.size ≤ ts.length ∧ w.grownBy w' (some g) ∧ PutR R g B ts o w (.returned (.string v)) w' := by
  cases R with
  | no E P =>
    obtain ⟨t, r, o', rfl, h1, h2, h3, h4, h5, h6⟩ := h.no
    exact ⟨t, rfl, by omega, h6, h⟩
  | yes t r =>
    obtain ⟨rfl, h1, h2, h3, h4⟩ := h.yes
    exact ⟨_, rfl, by rw [bs_size]; omega, h4, h⟩

/-- What a type turns into, if there is one. -/
def Rd.map (f : List UInt8 → List UInt8) : Rd → Rd
  | .no e p => .no e p
  | .yes t ts => .yes (f t) ts

theorem add_sum {P : Program} (a b : ByteArray) (n : Nat) (ha : a.size ≤ n) (hb : b.size ≤ n) (hn : n ≤ 4611686018427387903) (W : World) : (Op.stringOp .add a b).run P W = .ok (.string (a ++ b)) W := run_string_add_sum W a b (by omega)

/-- A word ahead of what was read. -/
theorem PutR.front {R : Rd} {n0 n1 : List Tok} {g B : Nat} {o : Int} {w0 w w' : World} {v z : ByteArray} (A : List UInt8) (h : PutR R g B n1 o w (.returned (.string v)) w') (hz : z = bs A ++ v) (h0 : w0.grownBy w (some g)) (hn : A.length + n1.length ≤ n0.length) :
    PutR (R.map (A ++ ·)) g B n0 o w0 (.returned (.string z)) w' := by
  subst hz
  cases R with
  | no E P =>
    obtain ⟨t, r, o', e, h1, h2, h3, h4, h5, h6⟩ := h.no
    injection e with e; injection e with e; subst e
    refine PutR.mkNo r o' ?_ h2 h3 h4 h5 (h0.trans h6)
    rw [ByteArray.size_append, bs_size]; omega
  | yes t r =>
    obtain ⟨e, h1, h2, h3, h4⟩ := h.yes
    injection e with e; injection e with e; subst e
    refine PutR.mkYes (bs_app _ _) h1 ?_ h3 (h0.trans h4)
    rw [List.length_append]; omega

theorem one1_ok (a b g B : Nat) (A : List UInt8) (r : List Tok) (o : Int) (R : Rd) (n0 n1 : List Tok) (w : World) (ca : w.cell? ⟨a, 0, none⟩ = some (.string (bs A))) (cb : w.cell? ⟨b, 0, none⟩ = some (ptr g))
    (ha : a ≠ g) (hb : b ≠ g) (la : a < w.heap.size) (lb : b < w.heap.size) (hP : Prs w g B r o 0 0) (hn : A.length + 1 + n1.length ≤ n0.length) (hsz : n0.length ≤ 4294967296)
    (hC : ∀ W, Prs W g B r o 0 0 → w.grownBy W (some g) → Calls Tryz.prog 65 #[ptr g] W fun e w' => PutR R g B n1 o W e w') :
    Calls Tryz.prog 78 #[ptr a, ptr b] w fun e w' => PutR (R.map ((62 :: A) ++ ·)) g B n0 o w e w' := by
  have HC := Lib.hid (hC w.drew hP.dr (grown_dr w _))
  have HK : Hid (∀ W, w.drew.grownBy W (some g) → W.cell? ⟨a, 0, none⟩ = some (.string (bs A)) ∧ W.cell? ⟨b, 0, none⟩ = some (ptr g)) := Lib.hid fun W hg => ⟨cell_keep ((grown_dr w _).trans hg) ca ha la, cell_keep ((grown_dr w _).trans hg) cb hb lb⟩
  have hA : (bs A).size ≤ 4294967296 := by rw [bs_size]; omega
  have h1 : n1.length ≤ 4294967296 := by omega
  have s1 := fun W => add_sum (P := Tryz.prog) ⟨#[62]⟩ (bs A) 4294967296 (by decide) hA (by decide) W
  have HZ : Hid (⟨#[62]⟩ ++ bs A = bs (62 :: A)) := Lib.hid (bs_app [62] A)
  have HB : Hid (∀ v : ByteArray, v.size ≤ n1.length → ∀ W, (Op.stringOp .add (⟨#[62]⟩ ++ bs A) v).run Tryz.prog W = .ok (.string (⟨#[62]⟩ ++ bs A ++ v)) W) := Lib.hid fun v hv W => add_sum _ _ 4294967297 (by rw [ByteArray.size_append]; show 1 + _ ≤ _; omega) (by omega) (by decide) W
  have HN : Hid ((62 :: A).length + n1.length ≤ n0.length) := Lib.hid (by simp only [List.length_cons]; omega)
  clear hC hP ha hb la lb hn hsz hA h1
  generalize bs A = y at *
  go_enter Tryz.func78, Tryz.ntmps78
  go_wp2_with fail
  go_region_with (go_at_call 65; refine HC.out.mono ?_; rintro e w3 h3; obtain ⟨v, rfl, hv, hg, hp⟩ := h3.any; have k1 := (HK.out w3 hg).1; have k2 := (HK.out w3 hg).2; have s2 := HB.out v hv; have HP := Lib.hid (hp.front (n0 := n0) (62 :: A) (z := ⟨#[62]⟩ ++ y ++ v) (by rw [HZ.out]) (grown_dr w _) HN.out); clear h3 hp hg hv)
  all_goals
    go_wp2_with fail
    go_ret
    exact HP.out

/-- What follows, if there is a type. -/
def Rd.bind (R : Rd) (k : List UInt8 → List Tok → Rd) : Rd := match R with
  | .no e p => .no e p
  | .yes t ts => k t ts

theorem PutR.from {R : Rd} {n0 n1 : List Tok} {g B : Nat} {o : Int} {w0 w w' : World} {e : Ending} (h : PutR R g B n1 o w e w') (h0 : w0.grownBy w (some g)) (hn : n1.length ≤ n0.length) : PutR R g B n0 o w0 e w' := by
  cases R with
  | no E P =>
    obtain ⟨t, r, o', rfl, h1, h2, h3, h4, h5, h6⟩ := h.no
    exact PutR.mkNo r o' (by omega) h2 h3 h4 h5 (h0.trans h6)
  | yes t r =>
    obtain ⟨rfl, h1, h2, h3, h4⟩ := h.yes
    exact PutR.mkYes rfl h1 (by omega) h3 (h0.trans h4)

theorem end_any (g B : Nat) (n0 n1 : List Tok) (o : Int) (x : List UInt8) (hx : x ≠ []) (R : Rd) (v : ByteArray) (w0 W : World) (h : PutR R g B n0 o w0 (.returned (.string v)) W) (hl : n0.length ≤ 4294967296) (hn : n0.length ≤ n1.length) :
    Calls Tryz.prog 89 #[ptr g, .string v, .string (bs x)] W fun e w' => PutR (R.bind fun t ts => endT t x ts) g B n1 o w0 e w' := by
  cases R with
  | no E P =>
    obtain ⟨t, r, o', e, h1, h2, h3, h4, h5, h6⟩ := h.no
    injection e with e; injection e with e; subst e
    refine (end_err g B r o' E P v (bs x) W h4 h5).mono ?_
    rintro e w' ⟨rfl, rfl⟩
    exact PutR.mkNo r o' (by show 0 + _ ≤ _; omega) h2 h3 h4 h5 h6
  | yes t r =>
    obtain ⟨e, h1, h2, h3, h4⟩ := h.yes
    injection e with e; injection e with e; subst e
    exact (end_ok g B r o t x W h1 (by omega) hx h3 n1 (by omega) (by omega)).mono fun e w' h => h.from h4 (Nat.le_refl _)

theorem arm3_ok (b g B : Nat) (r : List Tok) (o : Int) (R : Rd) (n0 n1 : List Tok) (w : World) (cb : w.cell? ⟨b, 0, none⟩ = some (ptr g))
    (hP : Prs w g B r o 0 0) (hn : 1 + n1.length ≤ n0.length) (hsz : n0.length ≤ 4294967296)
    (hC : ∀ W, Prs W g B r o 0 0 → w.grownBy W (some g) → Calls Tryz.prog 76 #[ptr g] W fun e w' => PutR R g B n1 o W e w') :
    Calls Tryz.prog 91 #[ptr b] w fun e w' => PutR (R.map ([120] ++ ·)) g B n0 o w e w' := by
  have HC := Lib.hid (hC w hP (grown_refl w _))
  have h1 : n1.length ≤ 4294967296 := by omega
  have HZ : Hid (∀ v : ByteArray, ⟨#[120]⟩ ++ v = bs [120] ++ v) := Lib.hid fun v => rfl
  have HB : Hid (∀ v : ByteArray, v.size ≤ n1.length → ∀ W, (Op.stringOp .add ⟨#[120]⟩ v).run Tryz.prog W = .ok (.string (⟨#[120]⟩ ++ v)) W) := Lib.hid fun v hv W => add_sum _ _ 4294967297 (by decide) (by omega) (by decide) W
  have HN : Hid (([120] : List UInt8).length + n1.length ≤ n0.length) := Lib.hid (by simp only [List.length_cons, List.length_nil]; omega)
  clear hC hP hn hsz h1
  go_enter Tryz.func91, Tryz.ntmps91
  go_wp2_with fail
  refine HC.out.mono ?_
  rintro e w3 h3
  obtain ⟨v, rfl, hv, hg, hp⟩ := h3.any
  have s2 := HB.out v hv
  have HP := Lib.hid (hp.front (n0 := n0) [120] (HZ.out v) (grown_refl w _) HN.out)
  clear h3 hp hg hv
  go_wp2_with fail
  go_ret
  exact HP.out

theorem arm2_ok (b g B : Nat) (r : List Tok) (o : Int) (R : Rd) (n0 n1 : List Tok) (w : World) (cb : w.cell? ⟨b, 0, none⟩ = some (ptr g))
    (hb : b ≠ g) (lb : b < w.heap.size) (hP : Prs w g B r o 0 0) (hn : 1 + n1.length ≤ n0.length) (hsz : n0.length ≤ 4294967296)
    (hC : ∀ W, Prs W g B r o 0 0 → w.grownBy W (some g) → Calls Tryz.prog 65 #[ptr g] W fun e w' => PutR R g B n1 o W e w') :
    Calls Tryz.prog 90 #[ptr b] w fun e w' => PutR ((R.map ([108] ++ ·)).bind fun t ts => endT t [93] ts) g B n0 o w e w' := by
  have HC := Lib.hid (hC w.drew hP.dr (grown_dr w _))
  have HK : Hid (∀ W, w.drew.grownBy W (some g) → W.cell? ⟨b, 0, none⟩ = some (ptr g)) := Lib.hid fun W hg => cell_keep ((grown_dr w _).trans hg) cb hb lb
  have h1 : n1.length ≤ 4294967296 := by omega
  have HZ : Hid (∀ v : ByteArray, ⟨#[108]⟩ ++ v = bs [108] ++ v) := Lib.hid fun v => rfl
  have HB : Hid (∀ v : ByteArray, v.size ≤ n1.length → ∀ W, (Op.stringOp .add ⟨#[108]⟩ v).run Tryz.prog W = .ok (.string (⟨#[108]⟩ ++ v)) W) := Lib.hid fun v hv W => add_sum _ _ 4294967297 (by decide) (by omega) (by decide) W
  have HN : Hid (([108] : List UInt8).length + n1.length ≤ n0.length) := Lib.hid (by simp only [List.length_cons, List.length_nil]; omega)
  have HE : Hid (∀ (v : ByteArray) (W : World), PutR (R.map ([108] ++ ·)) g B n0 o w (.returned (.string v)) W → Calls Tryz.prog 89 #[ptr g, .string v, .string ⟨#[93]⟩] W fun e w' => PutR ((R.map ([108] ++ ·)).bind fun t ts => endT t [93] ts) g B n0 o w e w') :=
    Lib.hid fun v W h => end_any g B n0 n0 o [93] (by decide) _ v w W h hsz (Nat.le_refl _)
  clear hC hP hn hsz h1 hb lb
  go_enter Tryz.func90, Tryz.ntmps90
  go_wp2_with fail
  go_region_with (first
    | (go_at_call 65; refine HC.out.mono ?_; rintro e w3 h3; obtain ⟨v, rfl, hv, hg, hp⟩ := h3.any; have k2 := HK.out w3 hg; have s2 := HB.out v hv; have HP := Lib.hid (hp.front (n0 := n0) [108] (HZ.out v) (grown_dr w _) HN.out); clear h3 hp hg hv)
    | (go_at_call 89; refine (HE.out _ _ HP.out).mono ?_; rintro e w4 h4; obtain ⟨u, rfl, hu, hg4, hp4⟩ := h4.any; have HQ := Lib.hid hp4; clear h4 hp4 hg4 hu))
  all_goals
    go_wp2_with fail
    go_ret
    exact HQ.out
end Go.Proofs.YthonnpjlkcjoeaaGreatDoor.T
