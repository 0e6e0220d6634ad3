/- Parts of this claim: CkF. -/
import Derived.Test.YtmagljnlfponaaaGreatP09
import Derived.Test.YtmagljnlfponaaaGreatP05
set_option linter.unusedVariables false
set_option linter.unusedSimpArgs false
/- CkF -/
namespace Go.Proofs.YtmagljnlfponaaaGreat.K
open Go.RowKit Go.Proofs.YtmagljnlfponaaaGreat.B Go.Proofs.YtmagljnlfponaaaGreat.T
set_option linter.unusedVariables false
set_option linter.unusedSimpArgs false

theorem byteEqN (a : UInt8) (c : Nat) (hc : c < 256) : ((a.toNat : Int) == (c : Int)) = (a == UInt8.ofNat c) := by
  have h := byte_eq a (UInt8.ofNat c)
  rw [UInt8.toNat_ofNat_of_lt' (by simpa using hc)] at h
  exact h
theorem kids1 {x : Ty} (hx : okT x) (h : arB x.head = 1) : ∃ k, x.kids = [k] := by
  have := Ty.ar_head hx.1
  rw [h] at this
  match hk : x.kids, this with
  | [k], _ => exact ⟨k, rfl⟩
  | [], h => simp at h
  | _ :: _ :: l, h => simp at h; omega
theorem kids2 {x : Ty} (hx : okT x) (h : arB x.head = 2) : ∃ k l, x.kids = [k, l] := by
  have := Ty.ar_head hx.1
  rw [h] at this
  match hk : x.kids, this with
  | [k, l], _ => exact ⟨k, l, rfl⟩
  | [], h => simp at h
  | [k], h => simp at h
  | _ :: _ :: _ :: l, h => simp at h; omega
/-- The parts' row, as it is read. -/
theorem parts_row {w : World} {base : Nat} {V : Value} {l : List Ty} (h : w.ownsRow base 9 1 V l.length (l.map strV)) (hl : 0 < l.length) : ∃ g c, V = .slice (some ⟨g, 0, none⟩) l.length c ∧ l.length ≤ c ∧ g < w.heap.size ∧ ∀ j t, l[j]? = some t → w.cell? ⟨g, j, none⟩ = some (.string (str t)) := by
  obtain ⟨A, c, rfl, h1, h2, h3, h4, h5⟩ := Rd.of_own h
  rcases h5 with h5 | ⟨g, rfl, h5⟩
  · omega
  · exact ⟨g, c, rfl, h1, h4 g rfl, fun j t hj => h5 j _ (by rw [List.getElem?_map, hj]; rfl)⟩

set_option maxRecDepth 100000 in
set_option maxHeartbeats 2000000 in
theorem get_x (cp : Value) (kd : Int) (kids nn : Int) (s t u : ByteArray) (ln cl : Int) (b c : Nat) (a : Nat) (X : ByteArray) (x : Ty) (hx : okT x) (hX : X = str x) (R : Rs Ty) (w : World) (h0 : w.cell? ⟨b, 0, none⟩ = some (.string X)) (hb : b < w.heap.size) (hc : 1 ≤ c) (hR : R = want (x.head = 120) a (.ok (x.kids.getD 0 tI))) :
    Calls Tryz.prog 73 #[cp, .agg #[.int .i8 kd, .int .i64 kids, .int .i64 nn, .string s, .string t, .string u, .int .i64 ln, .int .i64 cl], .slice (some ⟨b, 0, none⟩) 1 c, .int .i64 (a : Nat)] w fun e w' => RuleQ R w e w' := by
  have hh := fun W => Head_yes x W hx.1 hx.2
  have hp := fun W => Parts_yes x W hx.1 hx.2
  unfold PartsR at hp
  rw [← hX] at hh hp
  have hbe := byteEqN x.head 120 (by decide)
  obtain ⟨hd, hhd⟩ : ∃ q, x.head = q := ⟨_, rfl⟩
  rw [hhd] at hh hbe hR
  have HH := Lib.hid hh
  have HP := Lib.hid hp
  have HD := Lib.hid hhd
  have HX := Lib.hid (And.intro hx hX)
  clear hh hp hhd hx hX
  by_cases h120 : hd = 120
  rotate_left
  · rw [want_neg h120] at hR
    subst hR
    have e1 : ((hd.toNat : Int) == 120) = false := by rw [show (120 : Int) = ((120 : Nat) : Int) from rfl, hbe]; simpa using h120
    clear hbe
    go_enter Tryz.func73, Tryz.ntmps73
    go_upto_region 1 with fail
    obtain ⟨W, hW⟩ : ∃ W, w.alloc (.cells #[.int .i8 kd, .int .i64 kids, .int .i64 nn, .string s, .string t, .string u, .int .i64 ln, .int .i64 cl] 60) = W := ⟨_, rfl⟩
    rw [hW]
    have hbk : Blk W w.heap.size 60 #[.int .i8 kd, .int .i64 kids, .int .i64 nn, .string s, .string t, .string u, .int .i64 ln, .int .i64 cl] := by rw [← hW]; exact Blk.new _ _ _
    have hbw : Below w.heap.size w W := by rw [← hW]; exact bal b0 _
    have HK := Lib.hid (show ∀ W', Below W.heap.size W W' → (Below W.heap.size W W' ∧ W'.cell? ⟨b, 0, none⟩ = some (.string X) ∧ W'.cell? ⟨w.heap.size, 0, none⟩ = some (.int .i8 kd) ∧ W'.cell? ⟨w.heap.size, 4, none⟩ = some (.string t) ∧ W'.cell? ⟨w.heap.size, 5, none⟩ = some (.string u)) from fun W' hb' => ⟨hb', ((bl hbw hb').cell (p := ⟨b, 0, none⟩) hb).trans h0, ((hbk.below hb' hbk.lt).cell 0).trans rfl, ((hbk.below hb' hbk.lt).cell 4).trans rfl, ((hbk.below hb' hbk.lt).cell 5).trans rfl⟩)
    have HB := Lib.hid hbw
    clear hbk hbw hW h0
    obtain ⟨hB, k0, n0, n4, n5⟩ := HK.out _ (Below.refl _ _)
    clear hB
    go_wp2_with fail
    (refine (HH.out _).mono ?_); rintro e w4 ⟨rfl, rfl⟩
    go_wp2_with fail
    (refine (need_no 23 a _).mono ?_); rintro e w4 ⟨rfl, rfl⟩
    unfold Flaw
    go_wp2_with fail
    exact bodyPost_panic rfl (RuleQ.bad HB.out)
  rw [want_pos h120] at hR
  subst hR
  have e1 : ((hd.toNat : Int) == 120) = true := by rw [show (120 : Int) = ((120 : Nat) : Int) from rfl, hbe]; simpa using h120
  clear hbe
  subst h120
  go_enter Tryz.func73, Tryz.ntmps73
  go_upto_region 1 with fail
  obtain ⟨W, hW⟩ : ∃ W, w.alloc (.cells #[.int .i8 kd, .int .i64 kids, .int .i64 nn, .string s, .string t, .string u, .int .i64 ln, .int .i64 cl] 60) = W := ⟨_, rfl⟩
  rw [hW]
  have hbk : Blk W w.heap.size 60 #[.int .i8 kd, .int .i64 kids, .int .i64 nn, .string s, .string t, .string u, .int .i64 ln, .int .i64 cl] := by rw [← hW]; exact Blk.new _ _ _
  have hbw : Below w.heap.size w W := by rw [← hW]; exact bal b0 _
  have HK := Lib.hid (show ∀ W', Below W.heap.size W W' → (Below W.heap.size W W' ∧ W'.cell? ⟨b, 0, none⟩ = some (.string X) ∧ W'.cell? ⟨w.heap.size, 0, none⟩ = some (.int .i8 kd) ∧ W'.cell? ⟨w.heap.size, 4, none⟩ = some (.string t) ∧ W'.cell? ⟨w.heap.size, 5, none⟩ = some (.string u)) from fun W' hb' => ⟨hb', ((bl hbw hb').cell (p := ⟨b, 0, none⟩) hb).trans h0, ((hbk.below hb' hbk.lt).cell 0).trans rfl, ((hbk.below hb' hbk.lt).cell 4).trans rfl, ((hbk.below hb' hbk.lt).cell 5).trans rfl⟩)
  have HB := Lib.hid hbw
  clear hbk hbw hW h0
  obtain ⟨hB, k0, n0, n4, n5⟩ := HK.out _ (Below.refl _ _)
  clear hB
  go_wp2_with fail
  (refine (HH.out _).mono ?_); rintro e w4 ⟨rfl, rfl⟩
  go_wp2_with fail
  (refine (need_yes 23 a _).mono ?_); rintro e w4 ⟨rfl, rfl⟩
  go_wp2_with fail
  (refine (HP.out _).mono ?_); rintro e w5 ⟨V, rfl, ho, hb5⟩
  obtain ⟨k, hk⟩ := kids1 HX.out.1 (by rw [HD.out]; decide)
  rw [hk] at ho
  obtain ⟨g, cV, rfl, hg1, hg2, hg3⟩ := parts_row ho (by simp)
  have hcell := hg3 0 k rfl
  simp only [List.length_cons, List.length_nil, Nat.zero_add] at hg1 ⊢
  have HF := Lib.hid (And.intro (bl HB.out hb5) hk)
  clear ho hb5 hk hg3
  go_wp2_with fail
  go_ret
  exact RuleQ.ok HF.out.1 (by rw [HF.out.2]; rfl)

set_option maxRecDepth 100000 in
set_option maxHeartbeats 2000000 in
theorem of_22 (cp : Value) (kids nn : Int) (s t u : ByteArray) (ln cl : Int) (b c : Nat) (a : Nat) (X : ByteArray) (x : Ty) (hx : okT x) (hX : X = str x) (R : Rs Ty) (w : World) (h0 : w.cell? ⟨b, 0, none⟩ = some (.string X)) (hb : b < w.heap.size) (hc : 1 ≤ c) (hR : R = want (x.head = 108) a (.ok (x.kids.getD 0 tI))) :
    Calls Tryz.prog 70 #[cp, .agg #[.int .i8 22, .int .i64 kids, .int .i64 nn, .string s, .string t, .string u, .int .i64 ln, .int .i64 cl], .slice (some ⟨b, 0, none⟩) 1 c, .int .i64 (a : Nat)] w fun e w' => RuleQ R w e w' := by
  have hh := fun W => Head_yes x W hx.1 hx.2
  have hp := fun W => Parts_yes x W hx.1 hx.2
  unfold PartsR at hp
  rw [← hX] at hh hp
  have hbe := byteEqN x.head 108 (by decide)
  obtain ⟨hd, hhd⟩ : ∃ q, x.head = q := ⟨_, rfl⟩
  rw [hhd] at hh hbe hR
  have HH := Lib.hid hh
  have HP := Lib.hid hp
  have HD := Lib.hid hhd
  have HX := Lib.hid (And.intro hx hX)
  clear hh hp hhd hx hX
  by_cases h108 : hd = 108
  rotate_left
  · rw [want_neg h108] at hR
    subst hR
    have e1 : ((hd.toNat : Int) == 108) = false := by rw [show (108 : Int) = ((108 : Nat) : Int) from rfl, hbe]; simpa using h108
    clear hbe
    go_enter Tryz.func70, Tryz.ntmps70
    go_upto_region 1 with fail
    obtain ⟨W, hW⟩ : ∃ W, w.alloc (.cells #[.int .i8 22, .int .i64 kids, .int .i64 nn, .string s, .string t, .string u, .int .i64 ln, .int .i64 cl] 60) = W := ⟨_, rfl⟩
    rw [hW]
    have hbk : Blk W w.heap.size 60 #[.int .i8 22, .int .i64 kids, .int .i64 nn, .string s, .string t, .string u, .int .i64 ln, .int .i64 cl] := by rw [← hW]; exact Blk.new _ _ _
    have hbw : Below w.heap.size w W := by rw [← hW]; exact bal b0 _
    have HK := Lib.hid (show ∀ W', Below W.heap.size W W' → (Below W.heap.size W W' ∧ W'.cell? ⟨b, 0, none⟩ = some (.string X) ∧ W'.cell? ⟨w.heap.size, 0, none⟩ = some (.int .i8 22) ∧ W'.cell? ⟨w.heap.size, 4, none⟩ = some (.string t) ∧ W'.cell? ⟨w.heap.size, 5, none⟩ = some (.string u)) from fun W' hb' => ⟨hb', ((bl hbw hb').cell (p := ⟨b, 0, none⟩) hb).trans h0, ((hbk.below hb' hbk.lt).cell 0).trans rfl, ((hbk.below hb' hbk.lt).cell 4).trans rfl, ((hbk.below hb' hbk.lt).cell 5).trans rfl⟩)
    have HB := Lib.hid hbw
    clear hbk hbw hW h0
    obtain ⟨hB, k0, n0, n4, n5⟩ := HK.out _ (Below.refl _ _)
    clear hB
    go_wp2_with fail
    (refine (HH.out _).mono ?_); rintro e w4 ⟨rfl, rfl⟩
    go_wp2_with fail
    (refine (need_no 23 a _).mono ?_); rintro e w4 ⟨rfl, rfl⟩
    unfold Flaw
    go_wp2_with fail
    exact bodyPost_panic rfl (RuleQ.bad HB.out)
  rw [want_pos h108] at hR
  subst hR
  have e1 : ((hd.toNat : Int) == 108) = true := by rw [show (108 : Int) = ((108 : Nat) : Int) from rfl, hbe]; simpa using h108
  clear hbe
  subst h108
  go_enter Tryz.func70, Tryz.ntmps70
  go_upto_region 1 with fail
  obtain ⟨W, hW⟩ : ∃ W, w.alloc (.cells #[.int .i8 22, .int .i64 kids, .int .i64 nn, .string s, .string t, .string u, .int .i64 ln, .int .i64 cl] 60) = W := ⟨_, rfl⟩
  rw [hW]
  have hbk : Blk W w.heap.size 60 #[.int .i8 22, .int .i64 kids, .int .i64 nn, .string s, .string t, .string u, .int .i64 ln, .int .i64 cl] := by rw [← hW]; exact Blk.new _ _ _
  have hbw : Below w.heap.size w W := by rw [← hW]; exact bal b0 _
  have HK := Lib.hid (show ∀ W', Below W.heap.size W W' → (Below W.heap.size W W' ∧ W'.cell? ⟨b, 0, none⟩ = some (.string X) ∧ W'.cell? ⟨w.heap.size, 0, none⟩ = some (.int .i8 22) ∧ W'.cell? ⟨w.heap.size, 4, none⟩ = some (.string t) ∧ W'.cell? ⟨w.heap.size, 5, none⟩ = some (.string u)) from fun W' hb' => ⟨hb', ((bl hbw hb').cell (p := ⟨b, 0, none⟩) hb).trans h0, ((hbk.below hb' hbk.lt).cell 0).trans rfl, ((hbk.below hb' hbk.lt).cell 4).trans rfl, ((hbk.below hb' hbk.lt).cell 5).trans rfl⟩)
  have HB := Lib.hid hbw
  clear hbk hbw hW h0
  obtain ⟨hB, k0, n0, n4, n5⟩ := HK.out _ (Below.refl _ _)
  clear hB
  go_wp2_with fail
  (refine (HH.out _).mono ?_); rintro e w4 ⟨rfl, rfl⟩
  go_wp2_with fail
  (refine (need_yes 23 a _).mono ?_); rintro e w4 ⟨rfl, rfl⟩
  go_wp2_with fail
  (refine (HP.out _).mono ?_); rintro e w5 ⟨V, rfl, ho, hb5⟩
  obtain ⟨k, hk⟩ := kids1 HX.out.1 (by rw [HD.out]; decide)
  rw [hk] at ho
  obtain ⟨g, cV, rfl, hg1, hg2, hg3⟩ := parts_row ho (by simp)
  have hcell := hg3 0 k rfl
  simp only [List.length_cons, List.length_nil, Nat.zero_add] at hg1 ⊢
  have HF := Lib.hid (And.intro (bl HB.out hb5) hk)
  clear ho hb5 hk hg3
  go_wp2_with fail
  go_ret
  exact RuleQ.ok HF.out.1 (by rw [HF.out.2]; rfl)

set_option maxRecDepth 100000 in
set_option maxHeartbeats 2000000 in
theorem of_23 (cp : Value) (kids nn : Int) (s t u : ByteArray) (ln cl : Int) (b c : Nat) (a : Nat) (X : ByteArray) (x : Ty) (hx : okT x) (hX : X = str x) (R : Rs Ty) (w : World) (h0 : w.cell? ⟨b, 0, none⟩ = some (.string X)) (hb : b < w.heap.size) (hc : 1 ≤ c) (hR : R = want (x.head = 108) a (.ok x)) :
    Calls Tryz.prog 70 #[cp, .agg #[.int .i8 23, .int .i64 kids, .int .i64 nn, .string s, .string t, .string u, .int .i64 ln, .int .i64 cl], .slice (some ⟨b, 0, none⟩) 1 c, .int .i64 (a : Nat)] w fun e w' => RuleQ R w e w' := by
  have hh := fun W => Head_yes x W hx.1 hx.2
  have hp := fun W => Parts_yes x W hx.1 hx.2
  unfold PartsR at hp
  rw [← hX] at hh hp
  have hbe := byteEqN x.head 108 (by decide)
  obtain ⟨hd, hhd⟩ : ∃ q, x.head = q := ⟨_, rfl⟩
  rw [hhd] at hh hbe hR
  have HH := Lib.hid hh
  have HP := Lib.hid hp
  have HD := Lib.hid hhd
  have HX := Lib.hid (And.intro hx hX)
  clear hh hp hhd hx hX
  by_cases h108 : hd = 108
  rotate_left
  · rw [want_neg h108] at hR
    subst hR
    have e1 : ((hd.toNat : Int) == 108) = false := by rw [show (108 : Int) = ((108 : Nat) : Int) from rfl, hbe]; simpa using h108
    clear hbe
    go_enter Tryz.func70, Tryz.ntmps70
    go_upto_region 1 with fail
    obtain ⟨W, hW⟩ : ∃ W, w.alloc (.cells #[.int .i8 23, .int .i64 kids, .int .i64 nn, .string s, .string t, .string u, .int .i64 ln, .int .i64 cl] 60) = W := ⟨_, rfl⟩
    rw [hW]
    have hbk : Blk W w.heap.size 60 #[.int .i8 23, .int .i64 kids, .int .i64 nn, .string s, .string t, .string u, .int .i64 ln, .int .i64 cl] := by rw [← hW]; exact Blk.new _ _ _
    have hbw : Below w.heap.size w W := by rw [← hW]; exact bal b0 _
    have HK := Lib.hid (show ∀ W', Below W.heap.size W W' → (Below W.heap.size W W' ∧ W'.cell? ⟨b, 0, none⟩ = some (.string X) ∧ W'.cell? ⟨w.heap.size, 0, none⟩ = some (.int .i8 23) ∧ W'.cell? ⟨w.heap.size, 4, none⟩ = some (.string t) ∧ W'.cell? ⟨w.heap.size, 5, none⟩ = some (.string u)) from fun W' hb' => ⟨hb', ((bl hbw hb').cell (p := ⟨b, 0, none⟩) hb).trans h0, ((hbk.below hb' hbk.lt).cell 0).trans rfl, ((hbk.below hb' hbk.lt).cell 4).trans rfl, ((hbk.below hb' hbk.lt).cell 5).trans rfl⟩)
    have HB := Lib.hid hbw
    clear hbk hbw hW h0
    obtain ⟨hB, k0, n0, n4, n5⟩ := HK.out _ (Below.refl _ _)
    clear hB
    go_wp2_with fail
    (refine (HH.out _).mono ?_); rintro e w4 ⟨rfl, rfl⟩
    go_wp2_with fail
    (refine (need_no 23 a _).mono ?_); rintro e w4 ⟨rfl, rfl⟩
    unfold Flaw
    go_wp2_with fail
    exact bodyPost_panic rfl (RuleQ.bad HB.out)
  rw [want_pos h108] at hR
  subst hR
  have e1 : ((hd.toNat : Int) == 108) = true := by rw [show (108 : Int) = ((108 : Nat) : Int) from rfl, hbe]; simpa using h108
  clear hbe
  subst h108
  go_enter Tryz.func70, Tryz.ntmps70
  go_upto_region 1 with fail
  obtain ⟨W, hW⟩ : ∃ W, w.alloc (.cells #[.int .i8 23, .int .i64 kids, .int .i64 nn, .string s, .string t, .string u, .int .i64 ln, .int .i64 cl] 60) = W := ⟨_, rfl⟩
  rw [hW]
  have hbk : Blk W w.heap.size 60 #[.int .i8 23, .int .i64 kids, .int .i64 nn, .string s, .string t, .string u, .int .i64 ln, .int .i64 cl] := by rw [← hW]; exact Blk.new _ _ _
  have hbw : Below w.heap.size w W := by rw [← hW]; exact bal b0 _
  have HK := Lib.hid (show ∀ W', Below W.heap.size W W' → (Below W.heap.size W W' ∧ W'.cell? ⟨b, 0, none⟩ = some (.string X) ∧ W'.cell? ⟨w.heap.size, 0, none⟩ = some (.int .i8 23) ∧ W'.cell? ⟨w.heap.size, 4, none⟩ = some (.string t) ∧ W'.cell? ⟨w.heap.size, 5, none⟩ = some (.string u)) from fun W' hb' => ⟨hb', ((bl hbw hb').cell (p := ⟨b, 0, none⟩) hb).trans h0, ((hbk.below hb' hbk.lt).cell 0).trans rfl, ((hbk.below hb' hbk.lt).cell 4).trans rfl, ((hbk.below hb' hbk.lt).cell 5).trans rfl⟩)
  have HB := Lib.hid hbw
  clear hbk hbw hW h0
  obtain ⟨hB, k0, n0, n4, n5⟩ := HK.out _ (Below.refl _ _)
  clear hB
  go_wp2_with fail
  (refine (HH.out _).mono ?_); rintro e w4 ⟨rfl, rfl⟩
  go_wp2_with fail
  (refine (need_yes 23 a _).mono ?_); rintro e w4 ⟨rfl, rfl⟩
  go_wp2_with fail
  go_ret
  exact RuleQ.ok HB.out HX.out.2

set_option maxRecDepth 100000 in
set_option maxHeartbeats 2000000 in
theorem of_24 (cp : Value) (kids nn : Int) (s t u : ByteArray) (ln cl : Int) (b c : Nat) (a : Nat) (X : ByteArray) (x : Ty) (hx : okT x) (hX : X = str x) (R : Rs Ty) (w : World) (h0 : w.cell? ⟨b, 0, none⟩ = some (.string X)) (hb : b < w.heap.size) (hc : 1 ≤ c) (hR : R = want (x.head = 108) a (.ok tB)) :
    Calls Tryz.prog 70 #[cp, .agg #[.int .i8 24, .int .i64 kids, .int .i64 nn, .string s, .string t, .string u, .int .i64 ln, .int .i64 cl], .slice (some ⟨b, 0, none⟩) 1 c, .int .i64 (a : Nat)] w fun e w' => RuleQ R w e w' := by
  have hh := fun W => Head_yes x W hx.1 hx.2
  have hp := fun W => Parts_yes x W hx.1 hx.2
  unfold PartsR at hp
  rw [← hX] at hh hp
  have hbe := byteEqN x.head 108 (by decide)
  obtain ⟨hd, hhd⟩ : ∃ q, x.head = q := ⟨_, rfl⟩
  rw [hhd] at hh hbe hR
  have HH := Lib.hid hh
  have HP := Lib.hid hp
  have HD := Lib.hid hhd
  have HX := Lib.hid (And.intro hx hX)
  clear hh hp hhd hx hX
  by_cases h108 : hd = 108
  rotate_left
  · rw [want_neg h108] at hR
    subst hR
    have e1 : ((hd.toNat : Int) == 108) = false := by rw [show (108 : Int) = ((108 : Nat) : Int) from rfl, hbe]; simpa using h108
    clear hbe
    go_enter Tryz.func70, Tryz.ntmps70
    go_upto_region 1 with fail
    obtain ⟨W, hW⟩ : ∃ W, w.alloc (.cells #[.int .i8 24, .int .i64 kids, .int .i64 nn, .string s, .string t, .string u, .int .i64 ln, .int .i64 cl] 60) = W := ⟨_, rfl⟩
    rw [hW]
    have hbk : Blk W w.heap.size 60 #[.int .i8 24, .int .i64 kids, .int .i64 nn, .string s, .string t, .string u, .int .i64 ln, .int .i64 cl] := by rw [← hW]; exact Blk.new _ _ _
    have hbw : Below w.heap.size w W := by rw [← hW]; exact bal b0 _
    have HK := Lib.hid (show ∀ W', Below W.heap.size W W' → (Below W.heap.size W W' ∧ W'.cell? ⟨b, 0, none⟩ = some (.string X) ∧ W'.cell? ⟨w.heap.size, 0, none⟩ = some (.int .i8 24) ∧ W'.cell? ⟨w.heap.size, 4, none⟩ = some (.string t) ∧ W'.cell? ⟨w.heap.size, 5, none⟩ = some (.string u)) from fun W' hb' => ⟨hb', ((bl hbw hb').cell (p := ⟨b, 0, none⟩) hb).trans h0, ((hbk.below hb' hbk.lt).cell 0).trans rfl, ((hbk.below hb' hbk.lt).cell 4).trans rfl, ((hbk.below hb' hbk.lt).cell 5).trans rfl⟩)
    have HB := Lib.hid hbw
    clear hbk hbw hW h0
    obtain ⟨hB, k0, n0, n4, n5⟩ := HK.out _ (Below.refl _ _)
    clear hB
    go_wp2_with fail
    (refine (HH.out _).mono ?_); rintro e w4 ⟨rfl, rfl⟩
    go_wp2_with fail
    (refine (need_no 23 a _).mono ?_); rintro e w4 ⟨rfl, rfl⟩
    unfold Flaw
    go_wp2_with fail
    exact bodyPost_panic rfl (RuleQ.bad HB.out)
  rw [want_pos h108] at hR
  subst hR
  have e1 : ((hd.toNat : Int) == 108) = true := by rw [show (108 : Int) = ((108 : Nat) : Int) from rfl, hbe]; simpa using h108
  clear hbe
  subst h108
  go_enter Tryz.func70, Tryz.ntmps70
  go_upto_region 1 with fail
  obtain ⟨W, hW⟩ : ∃ W, w.alloc (.cells #[.int .i8 24, .int .i64 kids, .int .i64 nn, .string s, .string t, .string u, .int .i64 ln, .int .i64 cl] 60) = W := ⟨_, rfl⟩
  rw [hW]
  have hbk : Blk W w.heap.size 60 #[.int .i8 24, .int .i64 kids, .int .i64 nn, .string s, .string t, .string u, .int .i64 ln, .int .i64 cl] := by rw [← hW]; exact Blk.new _ _ _
  have hbw : Below w.heap.size w W := by rw [← hW]; exact bal b0 _
  have HK := Lib.hid (show ∀ W', Below W.heap.size W W' → (Below W.heap.size W W' ∧ W'.cell? ⟨b, 0, none⟩ = some (.string X) ∧ W'.cell? ⟨w.heap.size, 0, none⟩ = some (.int .i8 24) ∧ W'.cell? ⟨w.heap.size, 4, none⟩ = some (.string t) ∧ W'.cell? ⟨w.heap.size, 5, none⟩ = some (.string u)) from fun W' hb' => ⟨hb', ((bl hbw hb').cell (p := ⟨b, 0, none⟩) hb).trans h0, ((hbk.below hb' hbk.lt).cell 0).trans rfl, ((hbk.below hb' hbk.lt).cell 4).trans rfl, ((hbk.below hb' hbk.lt).cell 5).trans rfl⟩)
  have HB := Lib.hid hbw
  clear hbk hbw hW h0
  obtain ⟨hB, k0, n0, n4, n5⟩ := HK.out _ (Below.refl _ _)
  clear hB
  go_wp2_with fail
  (refine (HH.out _).mono ?_); rintro e w4 ⟨rfl, rfl⟩
  go_wp2_with fail
  (refine (need_yes 23 a _).mono ?_); rintro e w4 ⟨rfl, rfl⟩
  go_wp2_with fail
  go_ret
  exact RuleQ.ok HB.out rfl

set_option maxRecDepth 100000 in
set_option maxHeartbeats 2000000 in
theorem half_19 (cp : Value) (kids nn : Int) (s t u : ByteArray) (ln cl : Int) (b c : Nat) (a : Nat) (X : ByteArray) (x : Ty) (hx : okT x) (hX : X = str x) (R : Rs Ty) (w : World) (h0 : w.cell? ⟨b, 0, none⟩ = some (.string X)) (hb : b < w.heap.size) (hc : 1 ≤ c) (hR : R = want (x.head = 44) a (.ok (x.kids.getD 0 tI))) :
    Calls Tryz.prog 68 #[cp, .agg #[.int .i8 19, .int .i64 kids, .int .i64 nn, .string s, .string t, .string u, .int .i64 ln, .int .i64 cl], .slice (some ⟨b, 0, none⟩) 1 c, .int .i64 (a : Nat)] w fun e w' => RuleQ R w e w' := by
  have hh := fun W => Head_yes x W hx.1 hx.2
  have hp := fun W => Parts_yes x W hx.1 hx.2
  unfold PartsR at hp
  rw [← hX] at hh hp
  have hbe := byteEqN x.head 44 (by decide)
  obtain ⟨hd, hhd⟩ : ∃ q, x.head = q := ⟨_, rfl⟩
  rw [hhd] at hh hbe hR
  have HH := Lib.hid hh
  have HP := Lib.hid hp
  have HD := Lib.hid hhd
  have HX := Lib.hid (And.intro hx hX)
  clear hh hp hhd hx hX
  by_cases h44 : hd = 44
  rotate_left
  · rw [want_neg h44] at hR
    subst hR
    have e1 : ((hd.toNat : Int) == 44) = false := by rw [show (44 : Int) = ((44 : Nat) : Int) from rfl, hbe]; simpa using h44
    clear hbe
    go_enter Tryz.func68, Tryz.ntmps68
    go_upto_region 1 with fail
    obtain ⟨W, hW⟩ : ∃ W, w.alloc (.cells #[.int .i8 19, .int .i64 kids, .int .i64 nn, .string s, .string t, .string u, .int .i64 ln, .int .i64 cl] 60) = W := ⟨_, rfl⟩
    rw [hW]
    have hbk : Blk W w.heap.size 60 #[.int .i8 19, .int .i64 kids, .int .i64 nn, .string s, .string t, .string u, .int .i64 ln, .int .i64 cl] := by rw [← hW]; exact Blk.new _ _ _
    have hbw : Below w.heap.size w W := by rw [← hW]; exact bal b0 _
    have HK := Lib.hid (show ∀ W', Below W.heap.size W W' → (Below W.heap.size W W' ∧ W'.cell? ⟨b, 0, none⟩ = some (.string X) ∧ W'.cell? ⟨w.heap.size, 0, none⟩ = some (.int .i8 19) ∧ W'.cell? ⟨w.heap.size, 4, none⟩ = some (.string t) ∧ W'.cell? ⟨w.heap.size, 5, none⟩ = some (.string u)) from fun W' hb' => ⟨hb', ((bl hbw hb').cell (p := ⟨b, 0, none⟩) hb).trans h0, ((hbk.below hb' hbk.lt).cell 0).trans rfl, ((hbk.below hb' hbk.lt).cell 4).trans rfl, ((hbk.below hb' hbk.lt).cell 5).trans rfl⟩)
    have HB := Lib.hid hbw
    clear hbk hbw hW h0
    obtain ⟨hB, k0, n0, n4, n5⟩ := HK.out _ (Below.refl _ _)
    clear hB
    go_wp2_with fail
    (refine (HH.out _).mono ?_); rintro e w4 ⟨rfl, rfl⟩
    go_wp2_with fail
    (refine (need_no 23 a _).mono ?_); rintro e w4 ⟨rfl, rfl⟩
    unfold Flaw
    go_wp2_with fail
    exact bodyPost_panic rfl (RuleQ.bad HB.out)
  rw [want_pos h44] at hR
  subst hR
  have e1 : ((hd.toNat : Int) == 44) = true := by rw [show (44 : Int) = ((44 : Nat) : Int) from rfl, hbe]; simpa using h44
  clear hbe
  subst h44
  go_enter Tryz.func68, Tryz.ntmps68
  go_upto_region 1 with fail
  obtain ⟨W, hW⟩ : ∃ W, w.alloc (.cells #[.int .i8 19, .int .i64 kids, .int .i64 nn, .string s, .string t, .string u, .int .i64 ln, .int .i64 cl] 60) = W := ⟨_, rfl⟩
  rw [hW]
  have hbk : Blk W w.heap.size 60 #[.int .i8 19, .int .i64 kids, .int .i64 nn, .string s, .string t, .string u, .int .i64 ln, .int .i64 cl] := by rw [← hW]; exact Blk.new _ _ _
  have hbw : Below w.heap.size w W := by rw [← hW]; exact bal b0 _
  have HK := Lib.hid (show ∀ W', Below W.heap.size W W' → (Below W.heap.size W W' ∧ W'.cell? ⟨b, 0, none⟩ = some (.string X) ∧ W'.cell? ⟨w.heap.size, 0, none⟩ = some (.int .i8 19) ∧ W'.cell? ⟨w.heap.size, 4, none⟩ = some (.string t) ∧ W'.cell? ⟨w.heap.size, 5, none⟩ = some (.string u)) from fun W' hb' => ⟨hb', ((bl hbw hb').cell (p := ⟨b, 0, none⟩) hb).trans h0, ((hbk.below hb' hbk.lt).cell 0).trans rfl, ((hbk.below hb' hbk.lt).cell 4).trans rfl, ((hbk.below hb' hbk.lt).cell 5).trans rfl⟩)
  have HB := Lib.hid hbw
  clear hbk hbw hW h0
  obtain ⟨hB, k0, n0, n4, n5⟩ := HK.out _ (Below.refl _ _)
  clear hB
  go_wp2_with fail
  (refine (HH.out _).mono ?_); rintro e w4 ⟨rfl, rfl⟩
  go_wp2_with fail
  (refine (need_yes 23 a _).mono ?_); rintro e w4 ⟨rfl, rfl⟩
  clear k0 n0 n4 n5
  have hwr : IntKind.i8.wrap 0 = 0 := by decide
  go_upto_region 2 with fail
  refine wp_region_held_drew (S := (fun W' => Below W.heap.size W W' ∧ W'.cell? ⟨b, 0, none⟩ = some (.string X) ∧ W'.cell? ⟨w.heap.size, 0, none⟩ = some (.int .i8 19) ∧ W'.cell? ⟨w.heap.size, 4, none⟩ = some (.string t) ∧ W'.cell? ⟨w.heap.size, 5, none⟩ = some (.string u))) (by kernel_rfl) ?ss1 (fun hHeld => ?rr1)
  case ss1 => (try dsimp only); exact HK.out _ (Below.refl _ _).drew
  refine rgt 0 16 rfl rfl hHeld ?_
  try simp only [Act.put, rg1, rg2, rg3]
  refine rgt 1 17 rfl rfl hHeld ?_
  try simp only [Act.put, rg1, rg2, rg3]
  refine rgt 2 18 rfl rfl hHeld ?_
  try simp only [Act.put, rg1, rg2, rg3]
  refine rgt 4 20 rfl rfl hHeld ?_
  try simp only [Act.put, rg1, rg2, rg3]
  refine rgt 5 21 rfl rfl hHeld ?_
  try simp only [Act.put, rg1, rg2, rg3]
  refine rgt 6 22 rfl rfl hHeld ?_
  try simp only [Act.put, rg1, rg2, rg3]
  refine rgc 3 (some 19) rfl (fun K hK => ?_)
  go_simp
  ((refine (HP.out _).mono ?_); rintro e w5 ⟨V, rfl, ho, hb5⟩; obtain ⟨k, l, hk⟩ := kids2 HX.out.1 (by rw [HD.out]; decide); rw [hk] at ho; obtain ⟨g, cV, rfl, hg1, hg2, hg3⟩ := parts_row ho (by simp); have hcell := hg3 0 _ rfl; simp only [List.length_cons, List.length_nil, Nat.zero_add] at hg1 ⊢; have HF := Lib.hid hk; clear ho hk hg3)
  refine hK.out _ _ ?ss8 (fun hHeld2 => ?rr8)
  case ss8 => (try dsimp only); exact HK.out _ (bl hHeld.1 hb5)
  clear hK K
  clear hHeld
  have hHeld := hHeld2
  clear hHeld2
  try simp only [Act.put, rg1, rg2, rg3]
  refine rgt 7 23 rfl rfl hHeld ?_
  try simp only [Act.put, rg1, rg2, rg3]
  refine rgc 8 (some 24) rfl (fun K hK => ?_)
  go_simp
  refine hK.out _ _ ?ss10 (fun hHeld2 => ?rr10)
  case ss10 => (try dsimp only); exact hHeld
  clear hK K
  clear hHeld2
  try simp only [Act.put, rg1, rg2, rg3]
  refine rgt 9 8 rfl rfl hHeld ?_
  try simp only [Act.put, rg1, rg2, rg3]
  refine wpAnyH_done (by kernel_rfl) ?_ _
  have HB2 := Lib.hid (bl HB.out hHeld.1)
  clear hHeld
  go_wp2_with fail
  go_ret
  exact RuleQ.ok HB2.out (by rw [HF.out]; rfl)

set_option maxRecDepth 100000 in
set_option maxHeartbeats 2000000 in
theorem half_20 (cp : Value) (kids nn : Int) (s t u : ByteArray) (ln cl : Int) (b c : Nat) (a : Nat) (X : ByteArray) (x : Ty) (hx : okT x) (hX : X = str x) (R : Rs Ty) (w : World) (h0 : w.cell? ⟨b, 0, none⟩ = some (.string X)) (hb : b < w.heap.size) (hc : 1 ≤ c) (hR : R = want (x.head = 44) a (.ok (x.kids.getD 1 tI))) :
    Calls Tryz.prog 68 #[cp, .agg #[.int .i8 20, .int .i64 kids, .int .i64 nn, .string s, .string t, .string u, .int .i64 ln, .int .i64 cl], .slice (some ⟨b, 0, none⟩) 1 c, .int .i64 (a : Nat)] w fun e w' => RuleQ R w e w' := by
  have hh := fun W => Head_yes x W hx.1 hx.2
  have hp := fun W => Parts_yes x W hx.1 hx.2
  unfold PartsR at hp
  rw [← hX] at hh hp
  have hbe := byteEqN x.head 44 (by decide)
  obtain ⟨hd, hhd⟩ : ∃ q, x.head = q := ⟨_, rfl⟩
  rw [hhd] at hh hbe hR
  have HH := Lib.hid hh
  have HP := Lib.hid hp
  have HD := Lib.hid hhd
  have HX := Lib.hid (And.intro hx hX)
  clear hh hp hhd hx hX
  by_cases h44 : hd = 44
  rotate_left
  · rw [want_neg h44] at hR
    subst hR
    have e1 : ((hd.toNat : Int) == 44) = false := by rw [show (44 : Int) = ((44 : Nat) : Int) from rfl, hbe]; simpa using h44
    clear hbe
    go_enter Tryz.func68, Tryz.ntmps68
    go_upto_region 1 with fail
    obtain ⟨W, hW⟩ : ∃ W, w.alloc (.cells #[.int .i8 20, .int .i64 kids, .int .i64 nn, .string s, .string t, .string u, .int .i64 ln, .int .i64 cl] 60) = W := ⟨_, rfl⟩
    rw [hW]
    have hbk : Blk W w.heap.size 60 #[.int .i8 20, .int .i64 kids, .int .i64 nn, .string s, .string t, .string u, .int .i64 ln, .int .i64 cl] := by rw [← hW]; exact Blk.new _ _ _
    have hbw : Below w.heap.size w W := by rw [← hW]; exact bal b0 _
    have HK := Lib.hid (show ∀ W', Below W.heap.size W W' → (Below W.heap.size W W' ∧ W'.cell? ⟨b, 0, none⟩ = some (.string X) ∧ W'.cell? ⟨w.heap.size, 0, none⟩ = some (.int .i8 20) ∧ W'.cell? ⟨w.heap.size, 4, none⟩ = some (.string t) ∧ W'.cell? ⟨w.heap.size, 5, none⟩ = some (.string u)) from fun W' hb' => ⟨hb', ((bl hbw hb').cell (p := ⟨b, 0, none⟩) hb).trans h0, ((hbk.below hb' hbk.lt).cell 0).trans rfl, ((hbk.below hb' hbk.lt).cell 4).trans rfl, ((hbk.below hb' hbk.lt).cell 5).trans rfl⟩)
    have HB := Lib.hid hbw
    clear hbk hbw hW h0
    obtain ⟨hB, k0, n0, n4, n5⟩ := HK.out _ (Below.refl _ _)
    clear hB
    go_wp2_with fail
    (refine (HH.out _).mono ?_); rintro e w4 ⟨rfl, rfl⟩
    go_wp2_with fail
    (refine (need_no 23 a _).mono ?_); rintro e w4 ⟨rfl, rfl⟩
    unfold Flaw
    go_wp2_with fail
    exact bodyPost_panic rfl (RuleQ.bad HB.out)
  rw [want_pos h44] at hR
  subst hR
  have e1 : ((hd.toNat : Int) == 44) = true := by rw [show (44 : Int) = ((44 : Nat) : Int) from rfl, hbe]; simpa using h44
  clear hbe
  subst h44
  go_enter Tryz.func68, Tryz.ntmps68
  go_upto_region 1 with fail
  obtain ⟨W, hW⟩ : ∃ W, w.alloc (.cells #[.int .i8 20, .int .i64 kids, .int .i64 nn, .string s, .string t, .string u, .int .i64 ln, .int .i64 cl] 60) = W := ⟨_, rfl⟩
  rw [hW]
  have hbk : Blk W w.heap.size 60 #[.int .i8 20, .int .i64 kids, .int .i64 nn, .string s, .string t, .string u, .int .i64 ln, .int .i64 cl] := by rw [← hW]; exact Blk.new _ _ _
  have hbw : Below w.heap.size w W := by rw [← hW]; exact bal b0 _
  have HK := Lib.hid (show ∀ W', Below W.heap.size W W' → (Below W.heap.size W W' ∧ W'.cell? ⟨b, 0, none⟩ = some (.string X) ∧ W'.cell? ⟨w.heap.size, 0, none⟩ = some (.int .i8 20) ∧ W'.cell? ⟨w.heap.size, 4, none⟩ = some (.string t) ∧ W'.cell? ⟨w.heap.size, 5, none⟩ = some (.string u)) from fun W' hb' => ⟨hb', ((bl hbw hb').cell (p := ⟨b, 0, none⟩) hb).trans h0, ((hbk.below hb' hbk.lt).cell 0).trans rfl, ((hbk.below hb' hbk.lt).cell 4).trans rfl, ((hbk.below hb' hbk.lt).cell 5).trans rfl⟩)
  have HB := Lib.hid hbw
  clear hbk hbw hW h0
  obtain ⟨hB, k0, n0, n4, n5⟩ := HK.out _ (Below.refl _ _)
  clear hB
  go_wp2_with fail
  (refine (HH.out _).mono ?_); rintro e w4 ⟨rfl, rfl⟩
  go_wp2_with fail
  (refine (need_yes 23 a _).mono ?_); rintro e w4 ⟨rfl, rfl⟩
  clear k0 n0 n4 n5
  have hwr : IntKind.i8.wrap 1 = 1 := by decide
  go_upto_region 2 with fail
  refine wp_region_held_drew (S := (fun W' => Below W.heap.size W W' ∧ W'.cell? ⟨b, 0, none⟩ = some (.string X) ∧ W'.cell? ⟨w.heap.size, 0, none⟩ = some (.int .i8 20) ∧ W'.cell? ⟨w.heap.size, 4, none⟩ = some (.string t) ∧ W'.cell? ⟨w.heap.size, 5, none⟩ = some (.string u))) (by kernel_rfl) ?ss12 (fun hHeld => ?rr12)
  case ss12 => (try dsimp only); exact HK.out _ (Below.refl _ _).drew
  refine rgt 0 16 rfl rfl hHeld ?_
  try simp only [Act.put, rg1, rg2, rg3]
  refine rgt 1 17 rfl rfl hHeld ?_
  try simp only [Act.put, rg1, rg2, rg3]
  refine rgt 2 18 rfl rfl hHeld ?_
  try simp only [Act.put, rg1, rg2, rg3]
  refine rgt 4 20 rfl rfl hHeld ?_
  try simp only [Act.put, rg1, rg2, rg3]
  refine rgt 5 21 rfl rfl hHeld ?_
  try simp only [Act.put, rg1, rg2, rg3]
  refine rgt 6 22 rfl rfl hHeld ?_
  try simp only [Act.put, rg1, rg2, rg3]
  refine rgc 3 (some 19) rfl (fun K hK => ?_)
  go_simp
  ((refine (HP.out _).mono ?_); rintro e w5 ⟨V, rfl, ho, hb5⟩; obtain ⟨k, l, hk⟩ := kids2 HX.out.1 (by rw [HD.out]; decide); rw [hk] at ho; obtain ⟨g, cV, rfl, hg1, hg2, hg3⟩ := parts_row ho (by simp); have hcell := hg3 1 _ rfl; simp only [List.length_cons, List.length_nil, Nat.zero_add] at hg1 ⊢; have HF := Lib.hid hk; clear ho hk hg3)
  refine hK.out _ _ ?ss19 (fun hHeld2 => ?rr19)
  case ss19 => (try dsimp only); exact HK.out _ (bl hHeld.1 hb5)
  clear hK K
  clear hHeld
  have hHeld := hHeld2
  clear hHeld2
  try simp only [Act.put, rg1, rg2, rg3]
  refine rgt 7 23 rfl rfl hHeld ?_
  try simp only [Act.put, rg1, rg2, rg3]
  refine rgc 8 (some 24) rfl (fun K hK => ?_)
  go_simp
  refine hK.out _ _ ?ss21 (fun hHeld2 => ?rr21)
  case ss21 => (try dsimp only); exact hHeld
  clear hK K
  clear hHeld2
  try simp only [Act.put, rg1, rg2, rg3]
  refine rgt 9 8 rfl rfl hHeld ?_
  try simp only [Act.put, rg1, rg2, rg3]
  refine wpAnyH_done (by kernel_rfl) ?_ _
  have HB2 := Lib.hid (bl HB.out hHeld.1)
  clear hHeld
  go_wp2_with fail
  go_ret
  exact RuleQ.ok HB2.out (by rw [HF.out]; rfl)

set_option maxRecDepth 100000 in
set_option maxHeartbeats 2000000 in
theorem call_x (cp : Value) (kd : Int) (kids nn : Int) (s t u : ByteArray) (ln cl : Int) (b c : Nat) (a : Nat) (X : ByteArray) (Y : ByteArray) (x : Ty) (hx : okT x) (hX : X = str x) (R : Rs Ty) (w : World) (h0 : w.cell? ⟨b, 0, none⟩ = some (.string X)) (h1 : w.cell? ⟨b, 1, none⟩ = some (.string Y)) (hb : b < w.heap.size) (hc : 2 ≤ c) (y : Ty) (hy : okT y) (hY : Y = str y) (hR : R = want (x.head = 62 ∧ x.kids.getD 0 tI = y) a (.ok (x.kids.getD 1 tI))) :
    Calls Tryz.prog 65 #[cp, .agg #[.int .i8 kd, .int .i64 kids, .int .i64 nn, .string s, .string t, .string u, .int .i64 ln, .int .i64 cl], .slice (some ⟨b, 0, none⟩) 2 c, .int .i64 (a : Nat)] w fun e w' => RuleQ R w e w' := by
  have hh := fun W => Head_yes x W hx.1 hx.2
  have hp := fun W => Parts_yes x W hx.1 hx.2
  unfold PartsR at hp
  rw [← hX] at hh hp
  have hbe := byteEqN x.head 62 (by decide)
  obtain ⟨hd, hhd⟩ : ∃ q, x.head = q := ⟨_, rfl⟩
  rw [hhd] at hh hbe hR
  have HH := Lib.hid hh
  have HP := Lib.hid hp
  have HD := Lib.hid hhd
  have HX := Lib.hid (And.intro hx hX)
  clear hh hp hhd hx hX
  by_cases h62 : hd = 62
  rotate_left
  · rw [want_neg (fun h => h62 h.1)] at hR
    subst hR
    have e1 : ((hd.toNat : Int) == 62) = false := by rw [show (62 : Int) = ((62 : Nat) : Int) from rfl, hbe]; simpa using h62
    clear hbe
    go_enter Tryz.func65, Tryz.ntmps65
    go_upto_region 1 with fail
    obtain ⟨W, hW⟩ : ∃ W, w.alloc (.cells #[.int .i8 kd, .int .i64 kids, .int .i64 nn, .string s, .string t, .string u, .int .i64 ln, .int .i64 cl] 60) = W := ⟨_, rfl⟩
    rw [hW]
    have hbk : Blk W w.heap.size 60 #[.int .i8 kd, .int .i64 kids, .int .i64 nn, .string s, .string t, .string u, .int .i64 ln, .int .i64 cl] := by rw [← hW]; exact Blk.new _ _ _
    have hbw : Below w.heap.size w W := by rw [← hW]; exact bal b0 _
    have HK := Lib.hid (show ∀ W', Below W.heap.size W W' → (Below W.heap.size W W' ∧ W'.cell? ⟨b, 0, none⟩ = some (.string X) ∧ W'.cell? ⟨b, 1, none⟩ = some (.string Y) ∧ W'.cell? ⟨w.heap.size, 0, none⟩ = some (.int .i8 kd) ∧ W'.cell? ⟨w.heap.size, 4, none⟩ = some (.string t) ∧ W'.cell? ⟨w.heap.size, 5, none⟩ = some (.string u)) from fun W' hb' => ⟨hb', ((bl hbw hb').cell (p := ⟨b, 0, none⟩) hb).trans h0, ((bl hbw hb').cell (p := ⟨b, 1, none⟩) hb).trans h1, ((hbk.below hb' hbk.lt).cell 0).trans rfl, ((hbk.below hb' hbk.lt).cell 4).trans rfl, ((hbk.below hb' hbk.lt).cell 5).trans rfl⟩)
    have HB := Lib.hid hbw
    clear hbk hbw hW h0 h1
    obtain ⟨hB, k0, k1, n0, n4, n5⟩ := HK.out _ (Below.refl _ _)
    clear hB
    go_wp2_with fail
    (refine (HH.out _).mono ?_); rintro e w4 ⟨rfl, rfl⟩
    go_wp2_with fail
    (refine (need_no 23 a _).mono ?_); rintro e w4 ⟨rfl, rfl⟩
    unfold Flaw
    go_wp2_with fail
    exact bodyPost_panic rfl (RuleQ.bad HB.out)
  have e1 : ((hd.toNat : Int) == 62) = true := by rw [show (62 : Int) = ((62 : Nat) : Int) from rfl, hbe]; simpa using h62
  clear hbe
  subst h62
  obtain ⟨k, l, hk⟩ := kids2 HX.out.1 (by rw [HD.out]; decide)
  have hkl : okT k ∧ okT l := ⟨okT_kid HX.out.1 (by rw [hk]; simp), okT_kid HX.out.1 (by rw [hk]; simp)⟩
  rw [hk] at hR
  have hq : ((str k).toList == Y.toList) = true ↔ k = y := by rw [hY]; exact strEq hkl.1.1 hy.1
  obtain ⟨q, hqq⟩ : ∃ q, ((str k).toList == Y.toList) = q := ⟨_, rfl⟩
  rw [hqq] at hq
  have HQ := Lib.hid hq
  clear hq
  have HKK := Lib.hid hk
  clear hk hkl hY hy
  go_enter Tryz.func65, Tryz.ntmps65
  go_upto_region 1 with fail
  obtain ⟨W, hW⟩ : ∃ W, w.alloc (.cells #[.int .i8 kd, .int .i64 kids, .int .i64 nn, .string s, .string t, .string u, .int .i64 ln, .int .i64 cl] 60) = W := ⟨_, rfl⟩
  rw [hW]
  have hbk : Blk W w.heap.size 60 #[.int .i8 kd, .int .i64 kids, .int .i64 nn, .string s, .string t, .string u, .int .i64 ln, .int .i64 cl] := by rw [← hW]; exact Blk.new _ _ _
  have hbw : Below w.heap.size w W := by rw [← hW]; exact bal b0 _
  have HK := Lib.hid (show ∀ W', Below W.heap.size W W' → (Below W.heap.size W W' ∧ W'.cell? ⟨b, 0, none⟩ = some (.string X) ∧ W'.cell? ⟨b, 1, none⟩ = some (.string Y) ∧ W'.cell? ⟨w.heap.size, 0, none⟩ = some (.int .i8 kd) ∧ W'.cell? ⟨w.heap.size, 4, none⟩ = some (.string t) ∧ W'.cell? ⟨w.heap.size, 5, none⟩ = some (.string u)) from fun W' hb' => ⟨hb', ((bl hbw hb').cell (p := ⟨b, 0, none⟩) hb).trans h0, ((bl hbw hb').cell (p := ⟨b, 1, none⟩) hb).trans h1, ((hbk.below hb' hbk.lt).cell 0).trans rfl, ((hbk.below hb' hbk.lt).cell 4).trans rfl, ((hbk.below hb' hbk.lt).cell 5).trans rfl⟩)
  have HB := Lib.hid hbw
  clear hbk hbw hW h0 h1
  obtain ⟨hB, k0, k1, n0, n4, n5⟩ := HK.out _ (Below.refl _ _)
  clear hB
  go_wp2_with fail
  (refine (HH.out _).mono ?_); rintro e w4 ⟨rfl, rfl⟩
  go_wp2_with fail
  (refine (need_yes 23 a _).mono ?_); rintro e w4 ⟨rfl, rfl⟩
  go_wp2_with fail
  (refine (HP.out _).mono ?_); rintro e w5 ⟨V, rfl, ho, hb5⟩
  rw [HKK.out] at ho
  obtain ⟨g, cV, rfl, hg1, hg2, hg3⟩ := parts_row ho (by simp)
  have hc0 := hg3 0 k rfl
  have hc1 := hg3 1 l rfl
  simp only [List.length_cons, List.length_nil, Nat.zero_add] at hg1 ⊢
  have HK5 := Lib.hid (show ∀ W', Below w5.heap.size w5 W' → (Below W.heap.size W W' ∧ W'.cell? ⟨b, 0, none⟩ = some (.string X) ∧ W'.cell? ⟨b, 1, none⟩ = some (.string Y) ∧ W'.cell? ⟨w.heap.size, 0, none⟩ = some (.int .i8 kd) ∧ W'.cell? ⟨w.heap.size, 4, none⟩ = some (.string t) ∧ W'.cell? ⟨w.heap.size, 5, none⟩ = some (.string u) ∧ W'.cell? ⟨g, 0, none⟩ = some (.string (str k)) ∧ W'.cell? ⟨g, 1, none⟩ = some (.string (str l))) from fun W' hb' => by
    obtain ⟨q1, q2, q3, q4, q5, q6⟩ := HK.out W' (bl hb5 hb')
    exact ⟨q1, q2, q3, q4, q5, q6, (hb'.cell (p := ⟨g, 0, none⟩) hg2).trans hc0, (hb'.cell (p := ⟨g, 1, none⟩) hg2).trans hc1⟩)
  clear ho hb5 hg3 hc0 hc1 k0 k1 n0 n4 n5
  go_upto_region 3 with fail
  cases q
  · rw [want_neg (fun h => absurd (HQ.out.2 h.2) (by simp))] at hR
    subst hR
    refine wp_region_held_drew (S := (fun W' => Below W.heap.size W W' ∧ W'.cell? ⟨b, 0, none⟩ = some (.string X) ∧ W'.cell? ⟨b, 1, none⟩ = some (.string Y) ∧ W'.cell? ⟨w.heap.size, 0, none⟩ = some (.int .i8 kd) ∧ W'.cell? ⟨w.heap.size, 4, none⟩ = some (.string t) ∧ W'.cell? ⟨w.heap.size, 5, none⟩ = some (.string u) ∧ W'.cell? ⟨g, 0, none⟩ = some (.string (str k)) ∧ W'.cell? ⟨g, 1, none⟩ = some (.string (str l)))) (by kernel_rfl) ?ss23 (fun hHeld => ?rr23)
    case ss23 => (try dsimp only); exact HK5.out _ (Below.refl _ _).drew
    refine rgt 0 21 rfl rfl hHeld ?_
    try simp only [Act.put, rg1, rg2, rg3]
    refine rgt 1 22 rfl rfl hHeld ?_
    try simp only [Act.put, rg1, rg2, rg3]
    refine rgt 2 23 rfl rfl hHeld ?_
    try simp only [Act.put, rg1, rg2, rg3]
    refine rgt 3 24 rfl rfl hHeld ?_
    try simp only [Act.put, rg1, rg2, rg3]
    refine rgt 4 25 rfl rfl hHeld ?_
    try simp only [Act.put, rg1, rg2, rg3]
    refine rgt 5 26 rfl rfl hHeld ?_
    try simp only [Act.put, rg1, rg2, rg3]
    refine rgt 6 27 rfl rfl hHeld ?_
    try simp only [Act.put, rg1, rg2, rg3]
    refine rgt 7 28 rfl rfl hHeld ?_
    try simp only [Act.put, rg1, rg2, rg3]
    refine rgc 8 (some 29) rfl (fun K hK => ?_)
    go_simp
    (refine (need_no 23 a _).mono ?_)
    (rintro e w4 ⟨rfl, rfl⟩)
    unfold Flaw
    go_wp2_with fail
    exact bodyPost_panic rfl (RuleQ.bad (bl HB.out hHeld.1))
  · rw [want_pos ⟨by first | rfl | trivial, HQ.out.1 rfl⟩] at hR
    subst hR
    refine wp_region_held_drew (S := (fun W' => Below W.heap.size W W' ∧ W'.cell? ⟨b, 0, none⟩ = some (.string X) ∧ W'.cell? ⟨b, 1, none⟩ = some (.string Y) ∧ W'.cell? ⟨w.heap.size, 0, none⟩ = some (.int .i8 kd) ∧ W'.cell? ⟨w.heap.size, 4, none⟩ = some (.string t) ∧ W'.cell? ⟨w.heap.size, 5, none⟩ = some (.string u) ∧ W'.cell? ⟨g, 0, none⟩ = some (.string (str k)) ∧ W'.cell? ⟨g, 1, none⟩ = some (.string (str l)))) (by kernel_rfl) ?ss33 (fun hHeld => ?rr33)
    case ss33 => (try dsimp only); exact HK5.out _ (Below.refl _ _).drew
    refine rgt 0 21 rfl rfl hHeld ?_
    try simp only [Act.put, rg1, rg2, rg3]
    refine rgt 1 22 rfl rfl hHeld ?_
    try simp only [Act.put, rg1, rg2, rg3]
    refine rgt 2 23 rfl rfl hHeld ?_
    try simp only [Act.put, rg1, rg2, rg3]
    refine rgt 3 24 rfl rfl hHeld ?_
    try simp only [Act.put, rg1, rg2, rg3]
    refine rgt 4 25 rfl rfl hHeld ?_
    try simp only [Act.put, rg1, rg2, rg3]
    refine rgt 5 26 rfl rfl hHeld ?_
    try simp only [Act.put, rg1, rg2, rg3]
    refine rgt 6 27 rfl rfl hHeld ?_
    try simp only [Act.put, rg1, rg2, rg3]
    refine rgt 7 28 rfl rfl hHeld ?_
    try simp only [Act.put, rg1, rg2, rg3]
    refine rgc 8 (some 29) rfl (fun K hK => ?_)
    go_simp
    ((refine (need_yes 23 a _).mono ?_); rintro e w4 ⟨rfl, rfl⟩)
    refine hK.out _ _ ?ss42 (fun hHeld2 => ?rr42)
    case ss42 => (try dsimp only); exact hHeld
    clear hK K
    clear hHeld2
    try simp only [Act.put, rg1, rg2, rg3]
    refine wpAnyH_done (by kernel_rfl) ?_ _
    obtain ⟨hB, _, _, _, _, _, _, hc1⟩ := hHeld
    have HB2 := Lib.hid (bl HB.out hB)
    clear hB
    go_wp2_with fail
    go_ret
    exact RuleQ.ok HB2.out rfl

end Go.Proofs.YtmagljnlfponaaaGreat.K
