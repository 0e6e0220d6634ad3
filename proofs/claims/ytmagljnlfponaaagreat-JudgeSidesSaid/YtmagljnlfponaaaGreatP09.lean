/- Parts of this claim: CkE. -/
import Derived.Deep.RegionHeld3
import Derived.Test.YtmagljnlfponaaaGreatP04
import Derived.Test.YtmagljnlfponaaaGreatP05
import Derived.Test.YtmagljnlfponaaaGreatP08
set_option linter.unusedVariables false
set_option linter.unusedSimpArgs false
/- CkE -/
namespace Go.Proofs.YtmagljnlfponaaaGreat.K
open Go.RowKit Go.Proofs.YtmagljnlfponaaaGreat.B Go.Proofs.YtmagljnlfponaaaGreat.T
set_option linter.unusedVariables false
set_option linter.unusedSimpArgs false

/-- A rule's answer: a type, or the check ends. -/
def RuleQ (R : Rs Ty) (w : World) (e : Ending) (w' : World) : Prop := Below w.heap.size w w' ∧ match R with
  | .ok t => e = .returned (.string (str t))
  | .bad E x => e = Flaw E x
theorem RuleQ.ok {t : Ty} {s : ByteArray} {w w' : World} (hb : Below w.heap.size w w') (h : s = str t) : RuleQ (.ok t) w (.returned (.string s)) w' := ⟨hb, by rw [h]⟩
theorem RuleQ.bad {E : Int} {x : Nat} {w w' : World} (hb : Below w.heap.size w w') : RuleQ (.bad E x) w (.panicked [{ v := .iface 111 (.agg #[.int .i64 E, .int .i64 x]), recovered := false }]) w' := ⟨hb, rfl⟩
theorem want_pos {α : Type} {p : Prop} {a : Nat} {r : Rs α} (h : p) : want p a r = r := by unfold want; rw [if_pos h]
theorem want_neg {α : Type} {p : Prop} {a : Nat} {r : Rs α} (h : ¬ p) : want p a r = .bad 23 a := by unfold want; rw [if_neg h]
theorem made_pos {t : Ty} {a : Nat} (h : t.code.length ≤ 64) : made t a = .ok t := by unfold made; rw [if_pos h]
theorem made_neg {t : Ty} {a : Nat} (h : ¬ t.code.length ≤ 64) : made t a = .bad 21 a := by unfold made; rw [if_neg h]
theorem strEq {x y : Ty} (hx : x.ok) (hy : y.ok) : ((str x).toList == (str y).toList) = true ↔ x = y := by
  rw [beq_iff_eq, Lib.toList_data, Lib.toList_data]
  constructor
  · intro h; exact str_inj hx hy (ByteArray.ext (Array.ext' h))
  · intro h; rw [h]
theorem str_un (c : UInt8) (x : Ty) : (⟨#[c]⟩ : ByteArray) ++ str x = str (.un c x) := by
  apply ByteArray.ext
  simp [str, bs, Ty.code, ByteArray.data_append]
theorem str_bin (c : UInt8) (x y : Ty) : ((⟨#[c]⟩ : ByteArray) ++ str x) ++ str y = str (.bin c x y) := by
  apply ByteArray.ext
  simp [str, bs, Ty.code, ByteArray.data_append]
theorem str_size (x : Ty) : (str x).size = x.code.length := by simp [str, bs, ByteArray.size]
theorem str_leafB (c : UInt8) : str (.leaf c) = ⟨#[c]⟩ := rfl

set_option maxRecDepth 100000 in
set_option maxHeartbeats 2000000 in
theorem cast_x (cp : Value) (kd kids nn : Int) (s t u : ByteArray) (ln cl : Int) (b c : Nat) (a : Nat) (X : ByteArray) (R : Rs Ty) (w : World) (h0 : w.cell? ⟨b, 0, none⟩ = some (.string X)) (hb : b < w.heap.size) (hc : 1 ≤ c) (r : Bool) (hr : (X.toList == t.toList) = r) (T : Ty) (hu : u = str T) (hR : R = if r = true then .ok T else .bad 23 a) :
    Calls Tryz.prog 64 #[cp, .agg #[.int .i8 kd, .int .i64 kids, .int .i64 nn, .string s, .string t, .string u, .int .i64 ln, .int .i64 cl], .slice (some ⟨b, 0, none⟩) 1 c, .int .i64 (a : Nat)] w fun e w' => RuleQ R w e w' := by
  cases r
  · rw [if_neg (by simp)] at hR
    subst hR
    have HU := Lib.hid hu
    clear hu
    go_enter Tryz.func64, Tryz.ntmps64
    go_upto_region 1 with fail
    obtain ⟨W, hW⟩ : ∃ W, w.alloc (.cells #[.int .i8 kd, .int .i64 kids, .int .i64 nn, .string s, .string t, .string u, .int .i64 ln, .int .i64 cl] 60) = W := ⟨_, rfl⟩
    rw [hW]
    have hbk : Blk W w.heap.size 60 #[.int .i8 kd, .int .i64 kids, .int .i64 nn, .string s, .string t, .string u, .int .i64 ln, .int .i64 cl] := by rw [← hW]; exact Blk.new _ _ _
    have hbw : Below w.heap.size w W := by rw [← hW]; exact bal b0 _
    have HK := Lib.hid (show ∀ W', Below W.heap.size W W' → (Below W.heap.size W W' ∧ W'.cell? ⟨b, 0, none⟩ = some (.string X) ∧ W'.cell? ⟨w.heap.size, 0, none⟩ = some (.int .i8 kd) ∧ W'.cell? ⟨w.heap.size, 4, none⟩ = some (.string t) ∧ W'.cell? ⟨w.heap.size, 5, none⟩ = some (.string u)) from fun W' hb' => ⟨hb', ((bl hbw hb').cell (p := ⟨b, 0, none⟩) hb).trans h0, ((hbk.below hb' hbk.lt).cell 0).trans rfl, ((hbk.below hb' hbk.lt).cell 4).trans rfl, ((hbk.below hb' hbk.lt).cell 5).trans rfl⟩)
    have HB := Lib.hid hbw
    clear hbk hbw hW h0
    refine wp_region_held_drew (S := (fun W' => Below W.heap.size W W' ∧ W'.cell? ⟨b, 0, none⟩ = some (.string X) ∧ W'.cell? ⟨w.heap.size, 0, none⟩ = some (.int .i8 kd) ∧ W'.cell? ⟨w.heap.size, 4, none⟩ = some (.string t) ∧ W'.cell? ⟨w.heap.size, 5, none⟩ = some (.string u))) (by kernel_rfl) ?ss1 (fun hHeld => ?rr1)
    case ss1 => (try dsimp only); exact HK.out _ (Below.refl _ _).drew
    refine rgt 0 9 rfl rfl hHeld ?_
    try simp only [Act.put, rg1, rg2, rg3]
    refine rgt 1 10 rfl rfl hHeld ?_
    try simp only [Act.put, rg1, rg2, rg3]
    refine rgt 2 11 rfl rfl hHeld ?_
    try simp only [Act.put, rg1, rg2, rg3]
    refine rgt 3 12 rfl rfl hHeld ?_
    try simp only [Act.put, rg1, rg2, rg3]
    refine rgt 4 13 rfl rfl hHeld ?_
    try simp only [Act.put, rg1, rg2, rg3]
    refine rgt 5 14 rfl rfl hHeld ?_
    try simp only [Act.put, rg1, rg2, rg3]
    refine rgt 6 15 rfl rfl hHeld ?_
    try simp only [Act.put, rg1, rg2, rg3]
    refine rgc 7 (some 16) rfl (fun K hK => ?_)
    go_simp
    (refine (need_no 23 a _).mono ?_)
    (rintro e w4 ⟨rfl, rfl⟩)
    unfold Flaw
    go_wp2_with fail
    exact bodyPost_panic rfl (RuleQ.bad (bl HB.out hHeld.1))
  · rw [if_pos rfl] at hR
    subst hR
    have HU := Lib.hid hu
    clear hu
    go_enter Tryz.func64, Tryz.ntmps64
    go_upto_region 1 with fail
    obtain ⟨W, hW⟩ : ∃ W, w.alloc (.cells #[.int .i8 kd, .int .i64 kids, .int .i64 nn, .string s, .string t, .string u, .int .i64 ln, .int .i64 cl] 60) = W := ⟨_, rfl⟩
    rw [hW]
    have hbk : Blk W w.heap.size 60 #[.int .i8 kd, .int .i64 kids, .int .i64 nn, .string s, .string t, .string u, .int .i64 ln, .int .i64 cl] := by rw [← hW]; exact Blk.new _ _ _
    have hbw : Below w.heap.size w W := by rw [← hW]; exact bal b0 _
    have HK := Lib.hid (show ∀ W', Below W.heap.size W W' → (Below W.heap.size W W' ∧ W'.cell? ⟨b, 0, none⟩ = some (.string X) ∧ W'.cell? ⟨w.heap.size, 0, none⟩ = some (.int .i8 kd) ∧ W'.cell? ⟨w.heap.size, 4, none⟩ = some (.string t) ∧ W'.cell? ⟨w.heap.size, 5, none⟩ = some (.string u)) from fun W' hb' => ⟨hb', ((bl hbw hb').cell (p := ⟨b, 0, none⟩) hb).trans h0, ((hbk.below hb' hbk.lt).cell 0).trans rfl, ((hbk.below hb' hbk.lt).cell 4).trans rfl, ((hbk.below hb' hbk.lt).cell 5).trans rfl⟩)
    have HB := Lib.hid hbw
    clear hbk hbw hW h0
    refine wp_region_held_drew (S := (fun W' => Below W.heap.size W W' ∧ W'.cell? ⟨b, 0, none⟩ = some (.string X) ∧ W'.cell? ⟨w.heap.size, 0, none⟩ = some (.int .i8 kd) ∧ W'.cell? ⟨w.heap.size, 4, none⟩ = some (.string t) ∧ W'.cell? ⟨w.heap.size, 5, none⟩ = some (.string u))) (by kernel_rfl) ?ss10 (fun hHeld => ?rr10)
    case ss10 => (try dsimp only); exact HK.out _ (Below.refl _ _).drew
    refine rgt 0 9 rfl rfl hHeld ?_
    try simp only [Act.put, rg1, rg2, rg3]
    refine rgt 1 10 rfl rfl hHeld ?_
    try simp only [Act.put, rg1, rg2, rg3]
    refine rgt 2 11 rfl rfl hHeld ?_
    try simp only [Act.put, rg1, rg2, rg3]
    refine rgt 3 12 rfl rfl hHeld ?_
    try simp only [Act.put, rg1, rg2, rg3]
    refine rgt 4 13 rfl rfl hHeld ?_
    try simp only [Act.put, rg1, rg2, rg3]
    refine rgt 5 14 rfl rfl hHeld ?_
    try simp only [Act.put, rg1, rg2, rg3]
    refine rgt 6 15 rfl rfl hHeld ?_
    try simp only [Act.put, rg1, rg2, rg3]
    refine rgc 7 (some 16) rfl (fun K hK => ?_)
    go_simp
    ((refine (need_yes 23 a _).mono ?_); rintro e w4 ⟨rfl, rfl⟩)
    refine hK.out _ _ ?ss18 (fun hHeld2 => ?rr18)
    case ss18 => (try dsimp only); exact hHeld
    clear hK K
    clear hHeld2
    try simp only [Act.put, rg1, rg2, rg3]
    refine wpAnyH_done (by kernel_rfl) ?_ _
    obtain ⟨hB, k0, n0, n4, n5⟩ := hHeld
    have HB2 := Lib.hid (bl HB.out hB)
    clear hB
    go_wp2_with fail
    go_ret
    exact RuleQ.ok HB2.out HU.out

set_option maxRecDepth 100000 in
set_option maxHeartbeats 2000000 in
theorem cons_x (cp : Value) (kd kids nn : Int) (s t u : ByteArray) (ln cl : Int) (b c : Nat) (a : Nat) (X : ByteArray) (Y : ByteArray) (R : Rs Ty) (w : World) (h0 : w.cell? ⟨b, 0, none⟩ = some (.string X)) (h1 : w.cell? ⟨b, 1, none⟩ = some (.string Y)) (hb : b < w.heap.size) (hc : 2 ≤ c) (hz : X.size ≤ 64) (r : Bool) (hr : (Y.toList == ((⟨#[108]⟩ : ByteArray) ++ X).toList) = r) (T : Ty) (hu : Y = str T) (hR : R = if r = true then .ok T else .bad 23 a) :
    Calls Tryz.prog 71 #[cp, .agg #[.int .i8 kd, .int .i64 kids, .int .i64 nn, .string s, .string t, .string u, .int .i64 ln, .int .i64 cl], .slice (some ⟨b, 0, none⟩) 2 c, .int .i64 (a : Nat)] w fun e w' => RuleQ R w e w' := by
  have hs := fun V => run_string_add_sum (P := Tryz.prog) V ⟨#[108]⟩ X (by show 1 + _ ≤ _; omega)
  cases r
  · rw [if_neg (by simp)] at hR
    subst hR
    have HU := Lib.hid hu
    clear hu
    go_enter Tryz.func71, Tryz.ntmps71
    go_upto_region 1 with fail
    obtain ⟨W, hW⟩ : ∃ W, w.alloc (.cells #[.int .i8 kd, .int .i64 kids, .int .i64 nn, .string s, .string t, .string u, .int .i64 ln, .int .i64 cl] 60) = W := ⟨_, rfl⟩
    rw [hW]
    have hbk : Blk W w.heap.size 60 #[.int .i8 kd, .int .i64 kids, .int .i64 nn, .string s, .string t, .string u, .int .i64 ln, .int .i64 cl] := by rw [← hW]; exact Blk.new _ _ _
    have hbw : Below w.heap.size w W := by rw [← hW]; exact bal b0 _
    have HK := Lib.hid (show ∀ W', Below W.heap.size W W' → (Below W.heap.size W W' ∧ W'.cell? ⟨b, 0, none⟩ = some (.string X) ∧ W'.cell? ⟨b, 1, none⟩ = some (.string Y) ∧ W'.cell? ⟨w.heap.size, 0, none⟩ = some (.int .i8 kd) ∧ W'.cell? ⟨w.heap.size, 4, none⟩ = some (.string t) ∧ W'.cell? ⟨w.heap.size, 5, none⟩ = some (.string u)) from fun W' hb' => ⟨hb', ((bl hbw hb').cell (p := ⟨b, 0, none⟩) hb).trans h0, ((bl hbw hb').cell (p := ⟨b, 1, none⟩) hb).trans h1, ((hbk.below hb' hbk.lt).cell 0).trans rfl, ((hbk.below hb' hbk.lt).cell 4).trans rfl, ((hbk.below hb' hbk.lt).cell 5).trans rfl⟩)
    have HB := Lib.hid hbw
    clear hbk hbw hW h0 h1
    refine wp_region_held_drew (S := (fun W' => Below W.heap.size W W' ∧ W'.cell? ⟨b, 0, none⟩ = some (.string X) ∧ W'.cell? ⟨b, 1, none⟩ = some (.string Y) ∧ W'.cell? ⟨w.heap.size, 0, none⟩ = some (.int .i8 kd) ∧ W'.cell? ⟨w.heap.size, 4, none⟩ = some (.string t) ∧ W'.cell? ⟨w.heap.size, 5, none⟩ = some (.string u))) (by kernel_rfl) ?ss19 (fun hHeld => ?rr19)
    case ss19 => (try dsimp only); exact HK.out _ (Below.refl _ _).drew
    refine rgt 0 9 rfl rfl hHeld ?_
    try simp only [Act.put, rg1, rg2, rg3]
    refine rgt 1 10 rfl rfl hHeld ?_
    try simp only [Act.put, rg1, rg2, rg3]
    refine rgt 2 11 rfl rfl hHeld ?_
    try simp only [Act.put, rg1, rg2, rg3]
    refine rgt 3 12 rfl rfl hHeld ?_
    try simp only [Act.put, rg1, rg2, rg3]
    refine rgt 4 13 rfl rfl hHeld ?_
    try simp only [Act.put, rg1, rg2, rg3]
    refine rgt 5 14 rfl rfl hHeld ?_
    try simp only [Act.put, rg1, rg2, rg3]
    refine rgt 6 15 rfl rfl hHeld ?_
    try simp only [Act.put, rg1, rg2, rg3]
    refine rgt 7 16 rfl rfl hHeld ?_
    try simp only [Act.put, rg1, rg2, rg3]
    refine rgt 8 17 rfl rfl hHeld ?_
    try simp only [Act.put, rg1, rg2, rg3]
    refine rgc 9 (some 18) rfl (fun K hK => ?_)
    go_simp
    (refine (need_no 23 a _).mono ?_)
    (rintro e w4 ⟨rfl, rfl⟩)
    unfold Flaw
    go_wp2_with fail
    exact bodyPost_panic rfl (RuleQ.bad (bl HB.out hHeld.1))
  · rw [if_pos rfl] at hR
    subst hR
    have HU := Lib.hid hu
    clear hu
    go_enter Tryz.func71, Tryz.ntmps71
    go_upto_region 1 with fail
    obtain ⟨W, hW⟩ : ∃ W, w.alloc (.cells #[.int .i8 kd, .int .i64 kids, .int .i64 nn, .string s, .string t, .string u, .int .i64 ln, .int .i64 cl] 60) = W := ⟨_, rfl⟩
    rw [hW]
    have hbk : Blk W w.heap.size 60 #[.int .i8 kd, .int .i64 kids, .int .i64 nn, .string s, .string t, .string u, .int .i64 ln, .int .i64 cl] := by rw [← hW]; exact Blk.new _ _ _
    have hbw : Below w.heap.size w W := by rw [← hW]; exact bal b0 _
    have HK := Lib.hid (show ∀ W', Below W.heap.size W W' → (Below W.heap.size W W' ∧ W'.cell? ⟨b, 0, none⟩ = some (.string X) ∧ W'.cell? ⟨b, 1, none⟩ = some (.string Y) ∧ W'.cell? ⟨w.heap.size, 0, none⟩ = some (.int .i8 kd) ∧ W'.cell? ⟨w.heap.size, 4, none⟩ = some (.string t) ∧ W'.cell? ⟨w.heap.size, 5, none⟩ = some (.string u)) from fun W' hb' => ⟨hb', ((bl hbw hb').cell (p := ⟨b, 0, none⟩) hb).trans h0, ((bl hbw hb').cell (p := ⟨b, 1, none⟩) hb).trans h1, ((hbk.below hb' hbk.lt).cell 0).trans rfl, ((hbk.below hb' hbk.lt).cell 4).trans rfl, ((hbk.below hb' hbk.lt).cell 5).trans rfl⟩)
    have HB := Lib.hid hbw
    clear hbk hbw hW h0 h1
    refine wp_region_held_drew (S := (fun W' => Below W.heap.size W W' ∧ W'.cell? ⟨b, 0, none⟩ = some (.string X) ∧ W'.cell? ⟨b, 1, none⟩ = some (.string Y) ∧ W'.cell? ⟨w.heap.size, 0, none⟩ = some (.int .i8 kd) ∧ W'.cell? ⟨w.heap.size, 4, none⟩ = some (.string t) ∧ W'.cell? ⟨w.heap.size, 5, none⟩ = some (.string u))) (by kernel_rfl) ?ss30 (fun hHeld => ?rr30)
    case ss30 => (try dsimp only); exact HK.out _ (Below.refl _ _).drew
    refine rgt 0 9 rfl rfl hHeld ?_
    try simp only [Act.put, rg1, rg2, rg3]
    refine rgt 1 10 rfl rfl hHeld ?_
    try simp only [Act.put, rg1, rg2, rg3]
    refine rgt 2 11 rfl rfl hHeld ?_
    try simp only [Act.put, rg1, rg2, rg3]
    refine rgt 3 12 rfl rfl hHeld ?_
    try simp only [Act.put, rg1, rg2, rg3]
    refine rgt 4 13 rfl rfl hHeld ?_
    try simp only [Act.put, rg1, rg2, rg3]
    refine rgt 5 14 rfl rfl hHeld ?_
    try simp only [Act.put, rg1, rg2, rg3]
    refine rgt 6 15 rfl rfl hHeld ?_
    try simp only [Act.put, rg1, rg2, rg3]
    refine rgt 7 16 rfl rfl hHeld ?_
    try simp only [Act.put, rg1, rg2, rg3]
    refine rgt 8 17 rfl rfl hHeld ?_
    try simp only [Act.put, rg1, rg2, rg3]
    refine rgc 9 (some 18) rfl (fun K hK => ?_)
    go_simp
    ((refine (need_yes 23 a _).mono ?_); rintro e w4 ⟨rfl, rfl⟩)
    refine hK.out _ _ ?ss40 (fun hHeld2 => ?rr40)
    case ss40 => (try dsimp only); exact hHeld
    clear hK K
    clear hHeld2
    try simp only [Act.put, rg1, rg2, rg3]
    refine wpAnyH_done (by kernel_rfl) ?_ _
    obtain ⟨hB, k0, k1, n0, n4, n5⟩ := hHeld
    have HB2 := Lib.hid (bl HB.out hB)
    clear hB
    go_wp2_with fail
    go_ret
    exact RuleQ.ok HB2.out HU.out

set_option maxRecDepth 100000 in
set_option maxHeartbeats 2000000 in
theorem set_x (cp : Value) (kd kids nn : Int) (s t u : ByteArray) (ln cl : Int) (b c : Nat) (a : Nat) (X : ByteArray) (Y : ByteArray) (R : Rs Ty) (w : World) (h0 : w.cell? ⟨b, 0, none⟩ = some (.string X)) (h1 : w.cell? ⟨b, 1, none⟩ = some (.string Y)) (hb : b < w.heap.size) (hc : 2 ≤ c) (hz : Y.size ≤ 64) (r : Bool) (hr : (X.toList == ((⟨#[120]⟩ : ByteArray) ++ Y).toList) = r) (T : Ty) (hu : Y = str T) (hR : R = if r = true then .ok T else .bad 23 a) :
    Calls Tryz.prog 74 #[cp, .agg #[.int .i8 kd, .int .i64 kids, .int .i64 nn, .string s, .string t, .string u, .int .i64 ln, .int .i64 cl], .slice (some ⟨b, 0, none⟩) 2 c, .int .i64 (a : Nat)] w fun e w' => RuleQ R w e w' := by
  have hs := fun V => run_string_add_sum (P := Tryz.prog) V ⟨#[120]⟩ Y (by show 1 + _ ≤ _; omega)
  cases r
  · rw [if_neg (by simp)] at hR
    subst hR
    have HU := Lib.hid hu
    clear hu
    go_enter Tryz.func74, Tryz.ntmps74
    go_upto_region 1 with fail
    obtain ⟨W, hW⟩ : ∃ W, w.alloc (.cells #[.int .i8 kd, .int .i64 kids, .int .i64 nn, .string s, .string t, .string u, .int .i64 ln, .int .i64 cl] 60) = W := ⟨_, rfl⟩
    rw [hW]
    have hbk : Blk W w.heap.size 60 #[.int .i8 kd, .int .i64 kids, .int .i64 nn, .string s, .string t, .string u, .int .i64 ln, .int .i64 cl] := by rw [← hW]; exact Blk.new _ _ _
    have hbw : Below w.heap.size w W := by rw [← hW]; exact bal b0 _
    have HK := Lib.hid (show ∀ W', Below W.heap.size W W' → (Below W.heap.size W W' ∧ W'.cell? ⟨b, 0, none⟩ = some (.string X) ∧ W'.cell? ⟨b, 1, none⟩ = some (.string Y) ∧ W'.cell? ⟨w.heap.size, 0, none⟩ = some (.int .i8 kd) ∧ W'.cell? ⟨w.heap.size, 4, none⟩ = some (.string t) ∧ W'.cell? ⟨w.heap.size, 5, none⟩ = some (.string u)) from fun W' hb' => ⟨hb', ((bl hbw hb').cell (p := ⟨b, 0, none⟩) hb).trans h0, ((bl hbw hb').cell (p := ⟨b, 1, none⟩) hb).trans h1, ((hbk.below hb' hbk.lt).cell 0).trans rfl, ((hbk.below hb' hbk.lt).cell 4).trans rfl, ((hbk.below hb' hbk.lt).cell 5).trans rfl⟩)
    have HB := Lib.hid hbw
    clear hbk hbw hW h0 h1
    refine wp_region_held_drew (S := (fun W' => Below W.heap.size W W' ∧ W'.cell? ⟨b, 0, none⟩ = some (.string X) ∧ W'.cell? ⟨b, 1, none⟩ = some (.string Y) ∧ W'.cell? ⟨w.heap.size, 0, none⟩ = some (.int .i8 kd) ∧ W'.cell? ⟨w.heap.size, 4, none⟩ = some (.string t) ∧ W'.cell? ⟨w.heap.size, 5, none⟩ = some (.string u))) (by kernel_rfl) ?ss41 (fun hHeld => ?rr41)
    case ss41 => (try dsimp only); exact HK.out _ (Below.refl _ _).drew
    refine rgt 0 9 rfl rfl hHeld ?_
    try simp only [Act.put, rg1, rg2, rg3]
    refine rgt 1 10 rfl rfl hHeld ?_
    try simp only [Act.put, rg1, rg2, rg3]
    refine rgt 2 11 rfl rfl hHeld ?_
    try simp only [Act.put, rg1, rg2, rg3]
    refine rgt 3 12 rfl rfl hHeld ?_
    try simp only [Act.put, rg1, rg2, rg3]
    refine rgt 4 13 rfl rfl hHeld ?_
    try simp only [Act.put, rg1, rg2, rg3]
    refine rgt 5 14 rfl rfl hHeld ?_
    try simp only [Act.put, rg1, rg2, rg3]
    refine rgt 6 15 rfl rfl hHeld ?_
    try simp only [Act.put, rg1, rg2, rg3]
    refine rgt 7 16 rfl rfl hHeld ?_
    try simp only [Act.put, rg1, rg2, rg3]
    refine rgt 8 17 rfl rfl hHeld ?_
    try simp only [Act.put, rg1, rg2, rg3]
    refine rgc 9 (some 18) rfl (fun K hK => ?_)
    go_simp
    (refine (need_no 23 a _).mono ?_)
    (rintro e w4 ⟨rfl, rfl⟩)
    unfold Flaw
    go_wp2_with fail
    exact bodyPost_panic rfl (RuleQ.bad (bl HB.out hHeld.1))
  · rw [if_pos rfl] at hR
    subst hR
    have HU := Lib.hid hu
    clear hu
    go_enter Tryz.func74, Tryz.ntmps74
    go_upto_region 1 with fail
    obtain ⟨W, hW⟩ : ∃ W, w.alloc (.cells #[.int .i8 kd, .int .i64 kids, .int .i64 nn, .string s, .string t, .string u, .int .i64 ln, .int .i64 cl] 60) = W := ⟨_, rfl⟩
    rw [hW]
    have hbk : Blk W w.heap.size 60 #[.int .i8 kd, .int .i64 kids, .int .i64 nn, .string s, .string t, .string u, .int .i64 ln, .int .i64 cl] := by rw [← hW]; exact Blk.new _ _ _
    have hbw : Below w.heap.size w W := by rw [← hW]; exact bal b0 _
    have HK := Lib.hid (show ∀ W', Below W.heap.size W W' → (Below W.heap.size W W' ∧ W'.cell? ⟨b, 0, none⟩ = some (.string X) ∧ W'.cell? ⟨b, 1, none⟩ = some (.string Y) ∧ W'.cell? ⟨w.heap.size, 0, none⟩ = some (.int .i8 kd) ∧ W'.cell? ⟨w.heap.size, 4, none⟩ = some (.string t) ∧ W'.cell? ⟨w.heap.size, 5, none⟩ = some (.string u)) from fun W' hb' => ⟨hb', ((bl hbw hb').cell (p := ⟨b, 0, none⟩) hb).trans h0, ((bl hbw hb').cell (p := ⟨b, 1, none⟩) hb).trans h1, ((hbk.below hb' hbk.lt).cell 0).trans rfl, ((hbk.below hb' hbk.lt).cell 4).trans rfl, ((hbk.below hb' hbk.lt).cell 5).trans rfl⟩)
    have HB := Lib.hid hbw
    clear hbk hbw hW h0 h1
    refine wp_region_held_drew (S := (fun W' => Below W.heap.size W W' ∧ W'.cell? ⟨b, 0, none⟩ = some (.string X) ∧ W'.cell? ⟨b, 1, none⟩ = some (.string Y) ∧ W'.cell? ⟨w.heap.size, 0, none⟩ = some (.int .i8 kd) ∧ W'.cell? ⟨w.heap.size, 4, none⟩ = some (.string t) ∧ W'.cell? ⟨w.heap.size, 5, none⟩ = some (.string u))) (by kernel_rfl) ?ss52 (fun hHeld => ?rr52)
    case ss52 => (try dsimp only); exact HK.out _ (Below.refl _ _).drew
    refine rgt 0 9 rfl rfl hHeld ?_
    try simp only [Act.put, rg1, rg2, rg3]
    refine rgt 1 10 rfl rfl hHeld ?_
    try simp only [Act.put, rg1, rg2, rg3]
    refine rgt 2 11 rfl rfl hHeld ?_
    try simp only [Act.put, rg1, rg2, rg3]
    refine rgt 3 12 rfl rfl hHeld ?_
    try simp only [Act.put, rg1, rg2, rg3]
    refine rgt 4 13 rfl rfl hHeld ?_
    try simp only [Act.put, rg1, rg2, rg3]
    refine rgt 5 14 rfl rfl hHeld ?_
    try simp only [Act.put, rg1, rg2, rg3]
    refine rgt 6 15 rfl rfl hHeld ?_
    try simp only [Act.put, rg1, rg2, rg3]
    refine rgt 7 16 rfl rfl hHeld ?_
    try simp only [Act.put, rg1, rg2, rg3]
    refine rgt 8 17 rfl rfl hHeld ?_
    try simp only [Act.put, rg1, rg2, rg3]
    refine rgc 9 (some 18) rfl (fun K hK => ?_)
    go_simp
    ((refine (need_yes 23 a _).mono ?_); rintro e w4 ⟨rfl, rfl⟩)
    refine hK.out _ _ ?ss62 (fun hHeld2 => ?rr62)
    case ss62 => (try dsimp only); exact hHeld
    clear hK K
    clear hHeld2
    try simp only [Act.put, rg1, rg2, rg3]
    refine wpAnyH_done (by kernel_rfl) ?_ _
    obtain ⟨hB, k0, k1, n0, n4, n5⟩ := hHeld
    have HB2 := Lib.hid (bl HB.out hB)
    clear hB
    go_wp2_with fail
    go_ret
    exact RuleQ.ok HB2.out HU.out

set_option maxRecDepth 100000 in
set_option maxHeartbeats 2000000 in
theorem box_x (cp : Value) (kd kids nn : Int) (s t u : ByteArray) (ln cl : Int) (b c : Nat) (a : Nat) (X : ByteArray) (R : Rs Ty) (w : World) (h0 : w.cell? ⟨b, 0, none⟩ = some (.string X)) (hb : b < w.heap.size) (hc : 1 ≤ c) (hz : X.size ≤ 64) (T : Ty) (hu : (⟨#[120]⟩ : ByteArray) ++ X = str T) (hR : R = made T a) :
    Calls Tryz.prog 72 #[cp, .agg #[.int .i8 kd, .int .i64 kids, .int .i64 nn, .string s, .string t, .string u, .int .i64 ln, .int .i64 cl], .slice (some ⟨b, 0, none⟩) 1 c, .int .i64 (a : Nat)] w fun e w' => RuleQ R w e w' := by
  have hs := fun V => run_string_add_sum (P := Tryz.prog) V ⟨#[120]⟩ X (by show 1 + _ ≤ _; omega)
  have hsz : ((⟨#[120]⟩ : ByteArray) ++ X).size = T.code.length := by rw [hu, str_size]
  by_cases h64 : T.code.length ≤ 64
  · rw [made_pos h64] at hR
    subst hR
    have HM := Lib.hid fun W => made_yes cp ((⟨#[120]⟩ : ByteArray) ++ X) a W (by omega)
    have HU := Lib.hid hu
    clear hu
    go_enter Tryz.func72, Tryz.ntmps72
    go_upto_region 1 with fail
    obtain ⟨W, hW⟩ : ∃ W, w.alloc (.cells #[.int .i8 kd, .int .i64 kids, .int .i64 nn, .string s, .string t, .string u, .int .i64 ln, .int .i64 cl] 60) = W := ⟨_, rfl⟩
    rw [hW]
    have hbk : Blk W w.heap.size 60 #[.int .i8 kd, .int .i64 kids, .int .i64 nn, .string s, .string t, .string u, .int .i64 ln, .int .i64 cl] := by rw [← hW]; exact Blk.new _ _ _
    have hbw : Below w.heap.size w W := by rw [← hW]; exact bal b0 _
    have HK := Lib.hid (show ∀ W', Below W.heap.size W W' → (Below W.heap.size W W' ∧ W'.cell? ⟨b, 0, none⟩ = some (.string X) ∧ W'.cell? ⟨w.heap.size, 0, none⟩ = some (.int .i8 kd) ∧ W'.cell? ⟨w.heap.size, 4, none⟩ = some (.string t) ∧ W'.cell? ⟨w.heap.size, 5, none⟩ = some (.string u)) from fun W' hb' => ⟨hb', ((bl hbw hb').cell (p := ⟨b, 0, none⟩) hb).trans h0, ((hbk.below hb' hbk.lt).cell 0).trans rfl, ((hbk.below hb' hbk.lt).cell 4).trans rfl, ((hbk.below hb' hbk.lt).cell 5).trans rfl⟩)
    have HB := Lib.hid hbw
    clear hbk hbw hW h0
    obtain ⟨hB, k0, n0, n4, n5⟩ := HK.out _ (Below.refl _ _)
    clear hB
    go_wp2_with fail
    (refine (HM.out _).mono ?_); rintro e w4 ⟨rfl, rfl⟩
    go_wp2_with fail
    go_ret
    exact RuleQ.ok HB.out HU.out
  · rw [made_neg h64] at hR
    subst hR
    have HM := Lib.hid fun W => made_no cp ((⟨#[120]⟩ : ByteArray) ++ X) a W (by omega)
    have HU := Lib.hid hu
    clear hu
    go_enter Tryz.func72, Tryz.ntmps72
    go_upto_region 1 with fail
    obtain ⟨W, hW⟩ : ∃ W, w.alloc (.cells #[.int .i8 kd, .int .i64 kids, .int .i64 nn, .string s, .string t, .string u, .int .i64 ln, .int .i64 cl] 60) = W := ⟨_, rfl⟩
    rw [hW]
    have hbk : Blk W w.heap.size 60 #[.int .i8 kd, .int .i64 kids, .int .i64 nn, .string s, .string t, .string u, .int .i64 ln, .int .i64 cl] := by rw [← hW]; exact Blk.new _ _ _
    have hbw : Below w.heap.size w W := by rw [← hW]; exact bal b0 _
    have HK := Lib.hid (show ∀ W', Below W.heap.size W W' → (Below W.heap.size W W' ∧ W'.cell? ⟨b, 0, none⟩ = some (.string X) ∧ W'.cell? ⟨w.heap.size, 0, none⟩ = some (.int .i8 kd) ∧ W'.cell? ⟨w.heap.size, 4, none⟩ = some (.string t) ∧ W'.cell? ⟨w.heap.size, 5, none⟩ = some (.string u)) from fun W' hb' => ⟨hb', ((bl hbw hb').cell (p := ⟨b, 0, none⟩) hb).trans h0, ((hbk.below hb' hbk.lt).cell 0).trans rfl, ((hbk.below hb' hbk.lt).cell 4).trans rfl, ((hbk.below hb' hbk.lt).cell 5).trans rfl⟩)
    have HB := Lib.hid hbw
    clear hbk hbw hW h0
    obtain ⟨hB, k0, n0, n4, n5⟩ := HK.out _ (Below.refl _ _)
    clear hB
    go_wp2_with fail
    (refine (HM.out _).mono ?_); rintro e w4 ⟨rfl, rfl⟩
    unfold Flaw
    go_wp2_with fail
    exact bodyPost_panic rfl (RuleQ.bad HB.out)

set_option maxRecDepth 100000 in
set_option maxHeartbeats 2000000 in
theorem pair_x (cp : Value) (kd kids nn : Int) (s t u : ByteArray) (ln cl : Int) (b c : Nat) (a : Nat) (X : ByteArray) (Y : ByteArray) (R : Rs Ty) (w : World) (h0 : w.cell? ⟨b, 0, none⟩ = some (.string X)) (h1 : w.cell? ⟨b, 1, none⟩ = some (.string Y)) (hb : b < w.heap.size) (hc : 2 ≤ c) (hz : X.size ≤ 64) (hy : Y.size ≤ 64) (T : Ty) (hu : ((⟨#[44]⟩ : ByteArray) ++ X) ++ Y = str T) (hR : R = made T a) :
    Calls Tryz.prog 67 #[cp, .agg #[.int .i8 kd, .int .i64 kids, .int .i64 nn, .string s, .string t, .string u, .int .i64 ln, .int .i64 cl], .slice (some ⟨b, 0, none⟩) 2 c, .int .i64 (a : Nat)] w fun e w' => RuleQ R w e w' := by
  have hs := fun V => run_string_add_sum (P := Tryz.prog) V ⟨#[44]⟩ X (by show 1 + _ ≤ _; omega)
  have hs2 := fun V => run_string_add_sum (P := Tryz.prog) V ((⟨#[44]⟩ : ByteArray) ++ X) Y (by rw [ByteArray.size_append]; show (1 + _) + _ ≤ _; omega)
  have hsz : (((⟨#[44]⟩ : ByteArray) ++ X) ++ Y).size = T.code.length := by rw [hu, str_size]
  by_cases h64 : T.code.length ≤ 64
  · rw [made_pos h64] at hR
    subst hR
    have HM := Lib.hid fun W => made_yes cp (((⟨#[44]⟩ : ByteArray) ++ X) ++ Y) a W (by omega)
    have HU := Lib.hid hu
    clear hu
    go_enter Tryz.func67, Tryz.ntmps67
    go_upto_region 1 with fail
    obtain ⟨W, hW⟩ : ∃ W, w.alloc (.cells #[.int .i8 kd, .int .i64 kids, .int .i64 nn, .string s, .string t, .string u, .int .i64 ln, .int .i64 cl] 60) = W := ⟨_, rfl⟩
    rw [hW]
    have hbk : Blk W w.heap.size 60 #[.int .i8 kd, .int .i64 kids, .int .i64 nn, .string s, .string t, .string u, .int .i64 ln, .int .i64 cl] := by rw [← hW]; exact Blk.new _ _ _
    have hbw : Below w.heap.size w W := by rw [← hW]; exact bal b0 _
    have HK := Lib.hid (show ∀ W', Below W.heap.size W W' → (Below W.heap.size W W' ∧ W'.cell? ⟨b, 0, none⟩ = some (.string X) ∧ W'.cell? ⟨b, 1, none⟩ = some (.string Y) ∧ W'.cell? ⟨w.heap.size, 0, none⟩ = some (.int .i8 kd) ∧ W'.cell? ⟨w.heap.size, 4, none⟩ = some (.string t) ∧ W'.cell? ⟨w.heap.size, 5, none⟩ = some (.string u)) from fun W' hb' => ⟨hb', ((bl hbw hb').cell (p := ⟨b, 0, none⟩) hb).trans h0, ((bl hbw hb').cell (p := ⟨b, 1, none⟩) hb).trans h1, ((hbk.below hb' hbk.lt).cell 0).trans rfl, ((hbk.below hb' hbk.lt).cell 4).trans rfl, ((hbk.below hb' hbk.lt).cell 5).trans rfl⟩)
    have HB := Lib.hid hbw
    clear hbk hbw hW h0 h1
    refine wp_region_held_drew (S := (fun W' => Below W.heap.size W W' ∧ W'.cell? ⟨b, 0, none⟩ = some (.string X) ∧ W'.cell? ⟨b, 1, none⟩ = some (.string Y) ∧ W'.cell? ⟨w.heap.size, 0, none⟩ = some (.int .i8 kd) ∧ W'.cell? ⟨w.heap.size, 4, none⟩ = some (.string t) ∧ W'.cell? ⟨w.heap.size, 5, none⟩ = some (.string u))) (by kernel_rfl) ?ss63 (fun hHeld => ?rr63)
    case ss63 => (try dsimp only); exact HK.out _ (Below.refl _ _).drew
    refine rgt 0 9 rfl rfl hHeld ?_
    try simp only [Act.put, rg1, rg2, rg3]
    refine rgt 1 10 rfl rfl hHeld ?_
    try simp only [Act.put, rg1, rg2, rg3]
    refine rgt 2 11 rfl rfl hHeld ?_
    try simp only [Act.put, rg1, rg2, rg3]
    refine rgt 3 12 rfl rfl hHeld ?_
    try simp only [Act.put, rg1, rg2, rg3]
    refine rgt 4 13 rfl rfl hHeld ?_
    try simp only [Act.put, rg1, rg2, rg3]
    refine rgt 5 14 rfl rfl hHeld ?_
    try simp only [Act.put, rg1, rg2, rg3]
    refine rgt 6 15 rfl rfl hHeld ?_
    try simp only [Act.put, rg1, rg2, rg3]
    refine rgt 7 16 rfl rfl hHeld ?_
    try simp only [Act.put, rg1, rg2, rg3]
    refine rgt 8 17 rfl rfl hHeld ?_
    try simp only [Act.put, rg1, rg2, rg3]
    refine rgt 9 18 rfl rfl hHeld ?_
    try simp only [Act.put, rg1, rg2, rg3]
    refine rgc 10 (some 19) rfl (fun K hK => ?_)
    go_simp
    ((refine (HM.out _).mono ?_); rintro e w4 ⟨rfl, rfl⟩)
    refine hK.out _ _ ?ss74 (fun hHeld2 => ?rr74)
    case ss74 => (try dsimp only); exact hHeld
    clear hK K
    clear hHeld2
    try simp only [Act.put, rg1, rg2, rg3]
    refine rgt 11 8 rfl rfl hHeld ?_
    try simp only [Act.put, rg1, rg2, rg3]
    refine wpAnyH_done (by kernel_rfl) ?_ _
    have HB2 := Lib.hid (bl HB.out hHeld.1)
    clear hHeld
    go_wp2_with fail
    go_ret
    exact RuleQ.ok HB2.out HU.out
  · rw [made_neg h64] at hR
    subst hR
    have HM := Lib.hid fun W => made_no cp (((⟨#[44]⟩ : ByteArray) ++ X) ++ Y) a W (by omega)
    have HU := Lib.hid hu
    clear hu
    go_enter Tryz.func67, Tryz.ntmps67
    go_upto_region 1 with fail
    obtain ⟨W, hW⟩ : ∃ W, w.alloc (.cells #[.int .i8 kd, .int .i64 kids, .int .i64 nn, .string s, .string t, .string u, .int .i64 ln, .int .i64 cl] 60) = W := ⟨_, rfl⟩
    rw [hW]
    have hbk : Blk W w.heap.size 60 #[.int .i8 kd, .int .i64 kids, .int .i64 nn, .string s, .string t, .string u, .int .i64 ln, .int .i64 cl] := by rw [← hW]; exact Blk.new _ _ _
    have hbw : Below w.heap.size w W := by rw [← hW]; exact bal b0 _
    have HK := Lib.hid (show ∀ W', Below W.heap.size W W' → (Below W.heap.size W W' ∧ W'.cell? ⟨b, 0, none⟩ = some (.string X) ∧ W'.cell? ⟨b, 1, none⟩ = some (.string Y) ∧ W'.cell? ⟨w.heap.size, 0, none⟩ = some (.int .i8 kd) ∧ W'.cell? ⟨w.heap.size, 4, none⟩ = some (.string t) ∧ W'.cell? ⟨w.heap.size, 5, none⟩ = some (.string u)) from fun W' hb' => ⟨hb', ((bl hbw hb').cell (p := ⟨b, 0, none⟩) hb).trans h0, ((bl hbw hb').cell (p := ⟨b, 1, none⟩) hb).trans h1, ((hbk.below hb' hbk.lt).cell 0).trans rfl, ((hbk.below hb' hbk.lt).cell 4).trans rfl, ((hbk.below hb' hbk.lt).cell 5).trans rfl⟩)
    have HB := Lib.hid hbw
    clear hbk hbw hW h0 h1
    refine wp_region_held_drew (S := (fun W' => Below W.heap.size W W' ∧ W'.cell? ⟨b, 0, none⟩ = some (.string X) ∧ W'.cell? ⟨b, 1, none⟩ = some (.string Y) ∧ W'.cell? ⟨w.heap.size, 0, none⟩ = some (.int .i8 kd) ∧ W'.cell? ⟨w.heap.size, 4, none⟩ = some (.string t) ∧ W'.cell? ⟨w.heap.size, 5, none⟩ = some (.string u))) (by kernel_rfl) ?ss76 (fun hHeld => ?rr76)
    case ss76 => (try dsimp only); exact HK.out _ (Below.refl _ _).drew
    refine rgt 0 9 rfl rfl hHeld ?_
    try simp only [Act.put, rg1, rg2, rg3]
    refine rgt 1 10 rfl rfl hHeld ?_
    try simp only [Act.put, rg1, rg2, rg3]
    refine rgt 2 11 rfl rfl hHeld ?_
    try simp only [Act.put, rg1, rg2, rg3]
    refine rgt 3 12 rfl rfl hHeld ?_
    try simp only [Act.put, rg1, rg2, rg3]
    refine rgt 4 13 rfl rfl hHeld ?_
    try simp only [Act.put, rg1, rg2, rg3]
    refine rgt 5 14 rfl rfl hHeld ?_
    try simp only [Act.put, rg1, rg2, rg3]
    refine rgt 6 15 rfl rfl hHeld ?_
    try simp only [Act.put, rg1, rg2, rg3]
    refine rgt 7 16 rfl rfl hHeld ?_
    try simp only [Act.put, rg1, rg2, rg3]
    refine rgt 8 17 rfl rfl hHeld ?_
    try simp only [Act.put, rg1, rg2, rg3]
    refine rgt 9 18 rfl rfl hHeld ?_
    try simp only [Act.put, rg1, rg2, rg3]
    refine rgc 10 (some 19) rfl (fun K hK => ?_)
    go_simp
    (refine (HM.out _).mono ?_)
    (rintro e w4 ⟨rfl, rfl⟩)
    unfold Flaw
    go_wp2_with fail
    exact bodyPost_panic rfl (RuleQ.bad (bl HB.out hHeld.1))

set_option maxRecDepth 100000 in
set_option maxHeartbeats 2000000 in
theorem choice_x (cp : Value) (kd kids nn : Int) (s t u : ByteArray) (ln cl : Int) (b c : Nat) (a : Nat) (X : ByteArray) (Y : ByteArray) (Z : ByteArray) (R : Rs Ty) (w : World) (h0 : w.cell? ⟨b, 0, none⟩ = some (.string X)) (h1 : w.cell? ⟨b, 1, none⟩ = some (.string Y)) (h2 : w.cell? ⟨b, 2, none⟩ = some (.string Z)) (hb : b < w.heap.size) (hc : 3 ≤ c) (r q : Bool) (hr : (X.toList == [98]) = r) (hq : (Y.toList == Z.toList) = q) (T : Ty) (hu : Y = str T) (hR : R = if (r && q) = true then .ok T else .bad 23 a) :
    Calls Tryz.prog 66 #[cp, .agg #[.int .i8 kd, .int .i64 kids, .int .i64 nn, .string s, .string t, .string u, .int .i64 ln, .int .i64 cl], .slice (some ⟨b, 0, none⟩) 3 c, .int .i64 (a : Nat)] w fun e w' => RuleQ R w e w' := by
  cases r
  · rw [if_neg (by simp)] at hR
    subst hR
    have HU := Lib.hid hu
    clear hu
    go_enter Tryz.func66, Tryz.ntmps66
    go_upto_region 1 with fail
    obtain ⟨W, hW⟩ : ∃ W, w.alloc (.cells #[.int .i8 kd, .int .i64 kids, .int .i64 nn, .string s, .string t, .string u, .int .i64 ln, .int .i64 cl] 60) = W := ⟨_, rfl⟩
    rw [hW]
    have hbk : Blk W w.heap.size 60 #[.int .i8 kd, .int .i64 kids, .int .i64 nn, .string s, .string t, .string u, .int .i64 ln, .int .i64 cl] := by rw [← hW]; exact Blk.new _ _ _
    have hbw : Below w.heap.size w W := by rw [← hW]; exact bal b0 _
    have HK := Lib.hid (show ∀ W', Below W.heap.size W W' → (Below W.heap.size W W' ∧ W'.cell? ⟨b, 0, none⟩ = some (.string X) ∧ W'.cell? ⟨b, 1, none⟩ = some (.string Y) ∧ W'.cell? ⟨b, 2, none⟩ = some (.string Z) ∧ W'.cell? ⟨w.heap.size, 0, none⟩ = some (.int .i8 kd) ∧ W'.cell? ⟨w.heap.size, 4, none⟩ = some (.string t) ∧ W'.cell? ⟨w.heap.size, 5, none⟩ = some (.string u)) from fun W' hb' => ⟨hb', ((bl hbw hb').cell (p := ⟨b, 0, none⟩) hb).trans h0, ((bl hbw hb').cell (p := ⟨b, 1, none⟩) hb).trans h1, ((bl hbw hb').cell (p := ⟨b, 2, none⟩) hb).trans h2, ((hbk.below hb' hbk.lt).cell 0).trans rfl, ((hbk.below hb' hbk.lt).cell 4).trans rfl, ((hbk.below hb' hbk.lt).cell 5).trans rfl⟩)
    have HB := Lib.hid hbw
    clear hbk hbw hW h0 h1 h2
    refine wp_region_held_drew (S := (fun W' => Below W.heap.size W W' ∧ W'.cell? ⟨b, 0, none⟩ = some (.string X) ∧ W'.cell? ⟨b, 1, none⟩ = some (.string Y) ∧ W'.cell? ⟨b, 2, none⟩ = some (.string Z) ∧ W'.cell? ⟨w.heap.size, 0, none⟩ = some (.int .i8 kd) ∧ W'.cell? ⟨w.heap.size, 4, none⟩ = some (.string t) ∧ W'.cell? ⟨w.heap.size, 5, none⟩ = some (.string u))) (by kernel_rfl) ?ss88 (fun hHeld => ?rr88)
    case ss88 => (try dsimp only); exact HK.out _ (Below.refl _ _).drew
    refine rgt 0 9 rfl rfl hHeld ?_
    try simp only [Act.put, rg1, rg2, rg3]
    refine rgt 1 10 rfl rfl hHeld ?_
    try simp only [Act.put, rg1, rg2, rg3]
    refine rgt 2 11 rfl rfl hHeld ?_
    try simp only [Act.put, rg1, rg2, rg3]
    refine rgt 3 12 rfl rfl hHeld ?_
    try simp only [Act.put, rg1, rg2, rg3]
    refine rgt 4 13 rfl rfl hHeld ?_
    try simp only [Act.put, rg1, rg2, rg3]
    refine rgn 5 14 rfl rfl hHeld ?_
    try simp only [Act.put, rg1, rg2, rg3]
    refine rgn 6 15 rfl rfl hHeld ?_
    try simp only [Act.put, rg1, rg2, rg3]
    refine rgn 7 16 rfl rfl hHeld ?_
    try simp only [Act.put, rg1, rg2, rg3]
    refine rgn 8 17 rfl rfl hHeld ?_
    try simp only [Act.put, rg1, rg2, rg3]
    refine rgn 9 18 rfl rfl hHeld ?_
    try simp only [Act.put, rg1, rg2, rg3]
    refine rgn 10 19 rfl rfl hHeld ?_
    try simp only [Act.put, rg1, rg2, rg3]
    refine rgn 11 20 rfl rfl hHeld ?_
    try simp only [Act.put, rg1, rg2, rg3]
    refine rgt 12 21 rfl rfl hHeld ?_
    try simp only [Act.put, rg1, rg2, rg3]
    refine rgt 13 22 rfl rfl hHeld ?_
    try simp only [Act.put, rg1, rg2, rg3]
    refine rgc 14 (some 23) rfl (fun K hK => ?_)
    go_simp
    (refine (need_no 23 a _).mono ?_)
    (rintro e w4 ⟨rfl, rfl⟩)
    unfold Flaw
    go_wp2_with fail
    exact bodyPost_panic rfl (RuleQ.bad (bl HB.out hHeld.1))
  cases q
  · rw [if_neg (by simp)] at hR
    subst hR
    have HU := Lib.hid hu
    clear hu
    go_enter Tryz.func66, Tryz.ntmps66
    go_upto_region 1 with fail
    obtain ⟨W, hW⟩ : ∃ W, w.alloc (.cells #[.int .i8 kd, .int .i64 kids, .int .i64 nn, .string s, .string t, .string u, .int .i64 ln, .int .i64 cl] 60) = W := ⟨_, rfl⟩
    rw [hW]
    have hbk : Blk W w.heap.size 60 #[.int .i8 kd, .int .i64 kids, .int .i64 nn, .string s, .string t, .string u, .int .i64 ln, .int .i64 cl] := by rw [← hW]; exact Blk.new _ _ _
    have hbw : Below w.heap.size w W := by rw [← hW]; exact bal b0 _
    have HK := Lib.hid (show ∀ W', Below W.heap.size W W' → (Below W.heap.size W W' ∧ W'.cell? ⟨b, 0, none⟩ = some (.string X) ∧ W'.cell? ⟨b, 1, none⟩ = some (.string Y) ∧ W'.cell? ⟨b, 2, none⟩ = some (.string Z) ∧ W'.cell? ⟨w.heap.size, 0, none⟩ = some (.int .i8 kd) ∧ W'.cell? ⟨w.heap.size, 4, none⟩ = some (.string t) ∧ W'.cell? ⟨w.heap.size, 5, none⟩ = some (.string u)) from fun W' hb' => ⟨hb', ((bl hbw hb').cell (p := ⟨b, 0, none⟩) hb).trans h0, ((bl hbw hb').cell (p := ⟨b, 1, none⟩) hb).trans h1, ((bl hbw hb').cell (p := ⟨b, 2, none⟩) hb).trans h2, ((hbk.below hb' hbk.lt).cell 0).trans rfl, ((hbk.below hb' hbk.lt).cell 4).trans rfl, ((hbk.below hb' hbk.lt).cell 5).trans rfl⟩)
    have HB := Lib.hid hbw
    clear hbk hbw hW h0 h1 h2
    refine wp_region_held_drew (S := (fun W' => Below W.heap.size W W' ∧ W'.cell? ⟨b, 0, none⟩ = some (.string X) ∧ W'.cell? ⟨b, 1, none⟩ = some (.string Y) ∧ W'.cell? ⟨b, 2, none⟩ = some (.string Z) ∧ W'.cell? ⟨w.heap.size, 0, none⟩ = some (.int .i8 kd) ∧ W'.cell? ⟨w.heap.size, 4, none⟩ = some (.string t) ∧ W'.cell? ⟨w.heap.size, 5, none⟩ = some (.string u))) (by kernel_rfl) ?ss104 (fun hHeld => ?rr104)
    case ss104 => (try dsimp only); exact HK.out _ (Below.refl _ _).drew
    refine rgt 0 9 rfl rfl hHeld ?_
    try simp only [Act.put, rg1, rg2, rg3]
    refine rgt 1 10 rfl rfl hHeld ?_
    try simp only [Act.put, rg1, rg2, rg3]
    refine rgt 2 11 rfl rfl hHeld ?_
    try simp only [Act.put, rg1, rg2, rg3]
    refine rgt 3 12 rfl rfl hHeld ?_
    try simp only [Act.put, rg1, rg2, rg3]
    refine rgt 4 13 rfl rfl hHeld ?_
    try simp only [Act.put, rg1, rg2, rg3]
    refine rgt 5 14 rfl rfl hHeld ?_
    try simp only [Act.put, rg1, rg2, rg3]
    refine rgt 6 15 rfl rfl hHeld ?_
    try simp only [Act.put, rg1, rg2, rg3]
    refine rgt 7 16 rfl rfl hHeld ?_
    try simp only [Act.put, rg1, rg2, rg3]
    refine rgt 8 17 rfl rfl hHeld ?_
    try simp only [Act.put, rg1, rg2, rg3]
    refine rgt 9 18 rfl rfl hHeld ?_
    try simp only [Act.put, rg1, rg2, rg3]
    refine rgt 10 19 rfl rfl hHeld ?_
    try simp only [Act.put, rg1, rg2, rg3]
    refine rgt 11 20 rfl rfl hHeld ?_
    try simp only [Act.put, rg1, rg2, rg3]
    refine rgt 12 21 rfl rfl hHeld ?_
    try simp only [Act.put, rg1, rg2, rg3]
    refine rgt 13 22 rfl rfl hHeld ?_
    try simp only [Act.put, rg1, rg2, rg3]
    refine rgc 14 (some 23) rfl (fun K hK => ?_)
    go_simp
    (refine (need_no 23 a _).mono ?_)
    (rintro e w4 ⟨rfl, rfl⟩)
    unfold Flaw
    go_wp2_with fail
    exact bodyPost_panic rfl (RuleQ.bad (bl HB.out hHeld.1))
  · rw [if_pos (by simp)] at hR
    subst hR
    have HU := Lib.hid hu
    clear hu
    go_enter Tryz.func66, Tryz.ntmps66
    go_upto_region 1 with fail
    obtain ⟨W, hW⟩ : ∃ W, w.alloc (.cells #[.int .i8 kd, .int .i64 kids, .int .i64 nn, .string s, .string t, .string u, .int .i64 ln, .int .i64 cl] 60) = W := ⟨_, rfl⟩
    rw [hW]
    have hbk : Blk W w.heap.size 60 #[.int .i8 kd, .int .i64 kids, .int .i64 nn, .string s, .string t, .string u, .int .i64 ln, .int .i64 cl] := by rw [← hW]; exact Blk.new _ _ _
    have hbw : Below w.heap.size w W := by rw [← hW]; exact bal b0 _
    have HK := Lib.hid (show ∀ W', Below W.heap.size W W' → (Below W.heap.size W W' ∧ W'.cell? ⟨b, 0, none⟩ = some (.string X) ∧ W'.cell? ⟨b, 1, none⟩ = some (.string Y) ∧ W'.cell? ⟨b, 2, none⟩ = some (.string Z) ∧ W'.cell? ⟨w.heap.size, 0, none⟩ = some (.int .i8 kd) ∧ W'.cell? ⟨w.heap.size, 4, none⟩ = some (.string t) ∧ W'.cell? ⟨w.heap.size, 5, none⟩ = some (.string u)) from fun W' hb' => ⟨hb', ((bl hbw hb').cell (p := ⟨b, 0, none⟩) hb).trans h0, ((bl hbw hb').cell (p := ⟨b, 1, none⟩) hb).trans h1, ((bl hbw hb').cell (p := ⟨b, 2, none⟩) hb).trans h2, ((hbk.below hb' hbk.lt).cell 0).trans rfl, ((hbk.below hb' hbk.lt).cell 4).trans rfl, ((hbk.below hb' hbk.lt).cell 5).trans rfl⟩)
    have HB := Lib.hid hbw
    clear hbk hbw hW h0 h1 h2
    refine wp_region_held_drew (S := (fun W' => Below W.heap.size W W' ∧ W'.cell? ⟨b, 0, none⟩ = some (.string X) ∧ W'.cell? ⟨b, 1, none⟩ = some (.string Y) ∧ W'.cell? ⟨b, 2, none⟩ = some (.string Z) ∧ W'.cell? ⟨w.heap.size, 0, none⟩ = some (.int .i8 kd) ∧ W'.cell? ⟨w.heap.size, 4, none⟩ = some (.string t) ∧ W'.cell? ⟨w.heap.size, 5, none⟩ = some (.string u))) (by kernel_rfl) ?ss120 (fun hHeld => ?rr120)
    case ss120 => (try dsimp only); exact HK.out _ (Below.refl _ _).drew
    refine rgt 0 9 rfl rfl hHeld ?_
    try simp only [Act.put, rg1, rg2, rg3]
    refine rgt 1 10 rfl rfl hHeld ?_
    try simp only [Act.put, rg1, rg2, rg3]
    refine rgt 2 11 rfl rfl hHeld ?_
    try simp only [Act.put, rg1, rg2, rg3]
    refine rgt 3 12 rfl rfl hHeld ?_
    try simp only [Act.put, rg1, rg2, rg3]
    refine rgt 4 13 rfl rfl hHeld ?_
    try simp only [Act.put, rg1, rg2, rg3]
    refine rgt 5 14 rfl rfl hHeld ?_
    try simp only [Act.put, rg1, rg2, rg3]
    refine rgt 6 15 rfl rfl hHeld ?_
    try simp only [Act.put, rg1, rg2, rg3]
    refine rgt 7 16 rfl rfl hHeld ?_
    try simp only [Act.put, rg1, rg2, rg3]
    refine rgt 8 17 rfl rfl hHeld ?_
    try simp only [Act.put, rg1, rg2, rg3]
    refine rgt 9 18 rfl rfl hHeld ?_
    try simp only [Act.put, rg1, rg2, rg3]
    refine rgt 10 19 rfl rfl hHeld ?_
    try simp only [Act.put, rg1, rg2, rg3]
    refine rgt 11 20 rfl rfl hHeld ?_
    try simp only [Act.put, rg1, rg2, rg3]
    refine rgt 12 21 rfl rfl hHeld ?_
    try simp only [Act.put, rg1, rg2, rg3]
    refine rgt 13 22 rfl rfl hHeld ?_
    try simp only [Act.put, rg1, rg2, rg3]
    refine rgc 14 (some 23) rfl (fun K hK => ?_)
    go_simp
    ((refine (need_yes 23 a _).mono ?_); rintro e w4 ⟨rfl, rfl⟩)
    refine hK.out _ _ ?ss135 (fun hHeld2 => ?rr135)
    case ss135 => (try dsimp only); exact hHeld
    clear hK K
    clear hHeld2
    try simp only [Act.put, rg1, rg2, rg3]
    refine wpAnyH_done (by kernel_rfl) ?_ _
    obtain ⟨hB, k0, k1, k2, n0, n4, n5⟩ := hHeld
    have HB2 := Lib.hid (bl HB.out hB)
    clear hB
    go_wp2_with fail
    go_ret
    exact RuleQ.ok HB2.out HU.out

end Go.Proofs.YtmagljnlfponaaaGreat.K
