/- Parts of this claim: JuC, RtV. -/
import Derived.BigQuiet
import Derived.Test.YtmagljnlfponaaaGreatP28
import Derived.Test.YtmagljnlfponaaaGreatP02
import Derived.Test.YtmagljnlfponaaaGreatP05
import Derived.Test.YtmagljnlfponaaaGreatP10
set_option linter.unusedVariables false
set_option linter.unusedSimpArgs false
/- JuC -/
namespace Go.Proofs.YtmagljnlfponaaaGreat.J
open Go.RowKit Go.Proofs.YtmagljnlfponaaaGreat.B Go.Proofs.YtmagljnlfponaaaGreat.T Go.Proofs.YtmagljnlfponaaaGreat.K
set_option linter.unusedVariables false
set_option linter.unusedSimpArgs false

theorem ground_grd {S : Ty} (hS : S.ok) (hq : S.head ≠ 63) : bs (groundL S) = str (grd S) := by
  have ha := Ty.ar_head hS
  unfold groundL str
  rw [if_neg hq, ha]
  cases S <;> rfl

set_option maxRecDepth 100000 in
theorem plus_w (S T : Ty) (r : Bool) (w : World) (hS : S.ok) (hT : T.ok) (hS64 : S.code.length ≤ 64) (hT64 : T.code.length ≤ 64)
    (hp : S.head = T.head → ∀ W, Calls Tryz.prog 95 #[.string (str S), .string (str T), .agg #[fv 80, fv 81]] W fun e w' => e = .returned (.bool r) ∧ Below W.heap.size W w') :
    Calls Tryz.prog 80 #[.string (str S), .string (str T)] w fun e w' => e = .returned (.bool (if T.head = 63 then true else decide (S.head = T.head) && r)) ∧ Below w.heap.size w w' := by
  have h1 := fun W => Head_yes S W hS hS64
  have h2 := fun W => Head_yes T W hT hT64
  have hq := str_q hT
  have hbe := byte_eq S.head T.head
  unfold fv at hp
  generalize S.head = a at *
  generalize T.head = b at *
  generalize str S = s at *
  generalize str T = t at *
  clear hS hT hS64 hT64
  by_cases h63 : b = 63
  · rw [if_pos h63]
    have e1 : (t.toList == [63]) = true := by rw [hq, h63]; rfl
    clear hp h1 h2 hq hbe h63
    go_enter Tryz.func80, Tryz.ntmps80
    go_wp2_with fail
    go_ret
    exact ⟨rfl, Below.refl _ _⟩
  · rw [if_neg h63]
    have e1 : (t.toList == [63]) = false := by rw [hq]; simpa using h63
    by_cases hab : a = b
    · have e2 : ((a.toNat : Int) == (b.toNat : Int)) = true := by rw [hbe]; simpa using hab
      rw [decide_eq_true hab, Bool.true_and]
      have hp1 := hp hab
      clear hp hq hbe h63 hab
      go_enter Tryz.func80, Tryz.ntmps80
      go_wp2_with fail
      (refine (h1 _).mono ?_); rintro e w1 ⟨rfl, rfl⟩
      go_wp2_with fail
      (refine (h2 _).mono ?_); rintro e w1 ⟨rfl, rfl⟩
      go_wp2_with fail
      (refine (hp1 _).mono ?_); rintro e w1 ⟨rfl, hb1⟩
      go_wp2_with fail
      go_ret
      exact ⟨rfl, hb1⟩
    · have e2 : ((a.toNat : Int) == (b.toNat : Int)) = false := by rw [hbe]; simpa using hab
      rw [decide_eq_false hab, Bool.false_and]
      clear hp hq hbe h63 hab
      go_enter Tryz.func80, Tryz.ntmps80
      go_wp2_with fail
      (refine (h1 _).mono ?_); rintro e w1 ⟨rfl, rfl⟩
      go_wp2_with fail
      (refine (h2 _).mono ?_); rintro e w1 ⟨rfl, rfl⟩
      go_wp2_with fail
      go_ret
      exact ⟨rfl, Below.refl _ _⟩

set_option maxRecDepth 100000 in
theorem minus_w (S T U : Ty) (r : Bool) (w : World) (hS : S.ok) (hT : T.ok) (hS64 : S.code.length ≤ 64) (hT64 : T.code.length ≤ 64) (hU : U = if T.head = 63 then grd S else T)
    (hp : S.head ≠ 63 → S.head = U.head → ∀ W, Calls Tryz.prog 95 #[.string (str S), .string (str U), .agg #[fv 81, fv 80]] W fun e w' => e = .returned (.bool r) ∧ Below W.heap.size W w') :
    Calls Tryz.prog 81 #[.string (str S), .string (str T)] w fun e w' => e = .returned (.bool (if S.head = 63 then true else (!decide (S.head = U.head)) || r)) ∧ Below w.heap.size w w' := by
  have h1 := fun W => Head_yes S W hS hS64
  have hUok : U.ok := by rw [hU]; split; exact grd_ok hS; exact hT
  have hU64 : U.code.length ≤ 64 := by rw [hU]; split; exact Nat.le_trans (grd_len S) hS64; exact hT64
  have h2 := fun W => Head_yes U W hUok hU64
  have hqS := str_q hS
  have hqT := str_q hT
  have hbe := byte_neq S.head U.head
  unfold fv at hp
  by_cases h63 : S.head = 63
  · rw [if_pos h63]
    have e1 : ((str S).toList == [63]) = true := by rw [hqS, h63]; rfl
    generalize str S = s at *
    generalize str T = t at *
    clear hp h1 h2 hqS hqT hbe h63 hUok hU64 hU hS hT hS64 hT64
    go_enter Tryz.func81, Tryz.ntmps81
    go_wp2_with fail
    go_ret
    exact ⟨rfl, Below.refl _ _⟩
  rw [if_neg h63]
  have e1 : ((str S).toList == [63]) = false := by rw [hqS]; simpa using h63
  have hg := fun W => ground_any S W hS hS64 h63
  rw [ground_grd hS h63] at hg
  have hp0 := hp h63
  generalize S.head = a at *
  generalize U.head = b at *
  by_cases hT63 : T.head = 63
  · rw [if_pos hT63] at hU
    subst hU
    have e0 : ((str T).toList == [63]) = true := by rw [hqT, hT63]; rfl
    generalize str (grd S) = u at *
    generalize str S = s at *
    generalize str T = t at *
    clear hp hqS hqT h63 hUok hU64 hS hT hS64 hT64 hT63
    by_cases hab : a = b
    · have e2 : ((a.toNat : Int) != (b.toNat : Int)) = false := by rw [hbe]; simpa using hab
      rw [decide_eq_true hab, Bool.not_true, Bool.false_or]
      have hp1 := hp0 hab
      clear hp0 hbe hab
      go_enter Tryz.func81, Tryz.ntmps81
      go_wp2_with fail
      (refine (hg _).mono ?_); rintro e w1 ⟨rfl, hb0⟩
      go_wp2_with fail
      (refine (h1 _).mono ?_); rintro e w2 ⟨rfl, rfl⟩
      go_wp2_with fail
      (refine (h2 _).mono ?_); rintro e w2 ⟨rfl, rfl⟩
      go_wp2_with fail
      (refine (hp1 _).mono ?_); rintro e w2 ⟨rfl, hb1⟩
      go_wp2_with fail
      go_ret
      exact ⟨rfl, bl hb0 hb1⟩
    · have e2 : ((a.toNat : Int) != (b.toNat : Int)) = true := by rw [hbe]; simpa using hab
      rw [decide_eq_false hab, Bool.not_false, Bool.true_or]
      clear hp0 hbe hab
      go_enter Tryz.func81, Tryz.ntmps81
      go_wp2_with fail
      (refine (hg _).mono ?_); rintro e w1 ⟨rfl, hb0⟩
      go_wp2_with fail
      (refine (h1 _).mono ?_); rintro e w2 ⟨rfl, rfl⟩
      go_wp2_with fail
      (refine (h2 _).mono ?_); rintro e w2 ⟨rfl, rfl⟩
      go_wp2_with fail
      go_ret
      exact ⟨rfl, hb0⟩
  · rw [if_neg hT63] at hU
    subst hU
    have e0 : ((str U).toList == [63]) = false := by rw [hqT]; simpa using hT63
    generalize str S = s at *
    generalize str U = t at *
    clear hp hg hqS hqT h63 hUok hU64 hS hT hS64 hT64 hT63
    by_cases hab : a = b
    · have e2 : ((a.toNat : Int) != (b.toNat : Int)) = false := by rw [hbe]; simpa using hab
      rw [decide_eq_true hab, Bool.not_true, Bool.false_or]
      have hp1 := hp0 hab
      clear hp0 hbe hab
      go_enter Tryz.func81, Tryz.ntmps81
      go_wp2_with fail
      (refine (h1 _).mono ?_); rintro e w2 ⟨rfl, rfl⟩
      go_wp2_with fail
      (refine (h2 _).mono ?_); rintro e w2 ⟨rfl, rfl⟩
      go_wp2_with fail
      (refine (hp1 _).mono ?_); rintro e w2 ⟨rfl, hb1⟩
      go_wp2_with fail
      go_ret
      exact ⟨rfl, hb1⟩
    · have e2 : ((a.toNat : Int) != (b.toNat : Int)) = true := by rw [hbe]; simpa using hab
      rw [decide_eq_false hab, Bool.not_false, Bool.true_or]
      clear hp0 hbe hab
      go_enter Tryz.func81, Tryz.ntmps81
      go_wp2_with fail
      (refine (h1 _).mono ?_); rintro e w2 ⟨rfl, rfl⟩
      go_wp2_with fail
      (refine (h2 _).mono ?_); rintro e w2 ⟨rfl, rfl⟩
      go_wp2_with fail
      go_ret
      exact ⟨rfl, Below.refl _ _⟩

theorem head_un {a : UInt8} {t : Ty} (h : (Ty.un a t).ok) : a = 108 ∨ a = 120 := by
  have h0 : ar (a.toNat : Int) = 1 := h.1
  unfold ar at h0
  split at h0
  · omega
  split at h0
  · rename_i h1
    have e : ∀ k : Nat, k < 256 → (a.toNat : Int) = (k : Int) → a = UInt8.ofNat k := fun k hk e => by
      have : a.toNat = k := by omega
      rw [← this]; simp
    rcases h1 with h1 | h1
    · exact .inl (e 108 (by omega) h1)
    · exact .inr (e 120 (by omega) h1)
  split at h0 <;> omega
theorem head_bin {a : UInt8} {t u : Ty} (h : (Ty.bin a t u).ok) : a = 62 ∨ a = 44 := by
  have h0 : ar (a.toNat : Int) = 2 := h.1
  unfold ar at h0
  split at h0
  · omega
  split at h0
  · omega
  split at h0
  · rename_i h1
    have e : ∀ k : Nat, k < 256 → (a.toNat : Int) = (k : Int) → a = UInt8.ofNat k := fun k hk e => by
      have : a.toNat = k := by omega
      rw [← this]; simp
    rcases h1 with h1 | h1
    · exact .inl (e 62 (by omega) h1)
    · exact .inr (e 44 (by omega) h1)
  · omega

/-- safe.parts, asked with (plus, minus). -/
theorem parts_p {f g : Ty → Ty → Bool} {S T : Ty} (hS : S.ok) (hT : T.ok) (hS64 : S.code.length ≤ 64) (hT64 : T.code.length ≤ 64) (hh : S.head = T.head)
    (hf : ∀ a ∈ S.kids, ∀ b ∈ T.kids, AskQ 80 (str a) (str b) (f a b)) (hg : ∀ a ∈ S.kids, ∀ b ∈ T.kids, AskQ 81 (str b) (str a) (g b a)) (w : World) :
    Calls Tryz.prog 95 #[.string (str S), .string (str T), .agg #[fv 80, fv 81]] w fun e w' => e = .returned (.bool (partsB f g S T)) ∧ Below w.heap.size w w' := by
  have hl := kids_len hS hT hh
  cases S with
  | leaf h =>
    have : partsB f g (.leaf h) T = true := by cases T <;> rfl
    rw [this]
    exact parts_leaf _ _ h T w hS hT hT64
  | un h a =>
    cases T with
    | leaf h' => simp [Ty.kids] at hl
    | bin h' c d => simp [Ty.kids] at hl
    | un h' c =>
      obtain rfl : h = h' := hh
      have h1 := hf a (by simp [Ty.kids]) c (by simp [Ty.kids])
      have h2 := hg a (by simp [Ty.kids]) c (by simp [Ty.kids])
      rcases head_un hS with rfl | rfl
      · exact parts_108p a c w _ h1 hS hT hS64 hT64
      · show Calls _ _ _ _ (fun e w' => e = .returned (.bool (f a c && g c a)) ∧ _)
        rcases hr : f a c
        · rw [hr] at h1; exact parts_120fp a c w h1 hS hT hS64 hT64
        · rw [hr] at h1; exact parts_120tp a c w h1 _ h2 hS hT hS64 hT64
  | bin h a b =>
    cases T with
    | leaf h' => simp [Ty.kids] at hl
    | un h' c => simp [Ty.kids] at hl
    | bin h' c d =>
      obtain rfl : h = h' := hh
      have h1 := hf a (by simp [Ty.kids]) c (by simp [Ty.kids])
      have h2 := hg a (by simp [Ty.kids]) c (by simp [Ty.kids])
      have h3 := hf b (by simp [Ty.kids]) d (by simp [Ty.kids])
      rcases head_bin hS with rfl | rfl
      · show Calls _ _ _ _ (fun e w' => e = .returned (.bool (g c a && f b d)) ∧ _)
        rcases hr : g c a
        · rw [hr] at h2; exact parts_62fp a b c d w h2 hS hT hS64 hT64
        · rw [hr] at h2; exact parts_62tp a b c d w h2 _ h3 hS hT hS64 hT64
      · show Calls _ _ _ _ (fun e w' => e = .returned (.bool (f a c && f b d)) ∧ _)
        rcases hr : f a c
        · rw [hr] at h1; exact parts_44fp a b c d w h1 hS hT hS64 hT64
        · rw [hr] at h1; exact parts_44tp a b c d w h1 _ h3 hS hT hS64 hT64
/-- safe.parts, asked with (minus, plus). -/
theorem parts_m {f g : Ty → Ty → Bool} {S T : Ty} (hS : S.ok) (hT : T.ok) (hS64 : S.code.length ≤ 64) (hT64 : T.code.length ≤ 64) (hh : S.head = T.head)
    (hf : ∀ a ∈ S.kids, ∀ b ∈ T.kids, AskQ 81 (str a) (str b) (f a b)) (hg : ∀ a ∈ S.kids, ∀ b ∈ T.kids, AskQ 80 (str b) (str a) (g b a)) (w : World) :
    Calls Tryz.prog 95 #[.string (str S), .string (str T), .agg #[fv 81, fv 80]] w fun e w' => e = .returned (.bool (partsB f g S T)) ∧ Below w.heap.size w w' := by
  have hl := kids_len hS hT hh
  cases S with
  | leaf h =>
    have : partsB f g (.leaf h) T = true := by cases T <;> rfl
    rw [this]
    exact parts_leaf _ _ h T w hS hT hT64
  | un h a =>
    cases T with
    | leaf h' => simp [Ty.kids] at hl
    | bin h' c d => simp [Ty.kids] at hl
    | un h' c =>
      obtain rfl : h = h' := hh
      have h1 := hf a (by simp [Ty.kids]) c (by simp [Ty.kids])
      have h2 := hg a (by simp [Ty.kids]) c (by simp [Ty.kids])
      rcases head_un hS with rfl | rfl
      · exact parts_108m a c w _ h1 hS hT hS64 hT64
      · show Calls _ _ _ _ (fun e w' => e = .returned (.bool (f a c && g c a)) ∧ _)
        rcases hr : f a c
        · rw [hr] at h1; exact parts_120fm a c w h1 hS hT hS64 hT64
        · rw [hr] at h1; exact parts_120tm a c w h1 _ h2 hS hT hS64 hT64
  | bin h a b =>
    cases T with
    | leaf h' => simp [Ty.kids] at hl
    | un h' c => simp [Ty.kids] at hl
    | bin h' c d =>
      obtain rfl : h = h' := hh
      have h1 := hf a (by simp [Ty.kids]) c (by simp [Ty.kids])
      have h2 := hg a (by simp [Ty.kids]) c (by simp [Ty.kids])
      have h3 := hf b (by simp [Ty.kids]) d (by simp [Ty.kids])
      rcases head_bin hS with rfl | rfl
      · show Calls _ _ _ _ (fun e w' => e = .returned (.bool (g c a && f b d)) ∧ _)
        rcases hr : g c a
        · rw [hr] at h2; exact parts_62fm a b c d w h2 hS hT hS64 hT64
        · rw [hr] at h2; exact parts_62tm a b c d w h2 _ h3 hS hT hS64 hT64
      · show Calls _ _ _ _ (fun e w' => e = .returned (.bool (f a c && f b d)) ∧ _)
        rcases hr : f a c
        · rw [hr] at h1; exact parts_44fm a b c d w h1 hS hT hS64 hT64
        · rw [hr] at h1; exact parts_44tm a b c d w h1 _ h3 hS hT hS64 hT64

theorem pm_any : ∀ (n : Nat) (S T : Ty), S.ok → T.ok → S.code.length ≤ 64 → T.code.length ≤ 64 → S.code.length + T.code.length ≤ n →
    AskQ 80 (str S) (str T) (pmN n S T).1 ∧ AskQ 81 (str S) (str T) (pmN n S T).2
  | 0, S, T, hS, hT, hS64, hT64, hn => by have := S.code_pos; omega
  | n + 1, S, T, hS, hT, hS64, hT64, hn => by
    have hU64 : (if T.head = 63 then grd S else T).code.length ≤ 64 := by split; exact Nat.le_trans (grd_len S) hS64; exact hT64
    have hUok : (if T.head = 63 then grd S else T).ok := by split; exact grd_ok hS; exact hT
    have key : ∀ U : Ty, U.ok → U.code.length ≤ 64 → ∀ a ∈ S.kids, ∀ b ∈ U.kids, a.code.length + b.code.length ≤ n →
        (AskQ 80 (str a) (str b) (pmN n a b).1 ∧ AskQ 81 (str a) (str b) (pmN n a b).2) ∧ (AskQ 80 (str b) (str a) (pmN n b a).1 ∧ AskQ 81 (str b) (str a) (pmN n b a).2) := by
      intro U hU h64 a ha b hb hl
      have ha1 := Ty.kid_code ha
      have hb1 := Ty.kid_code hb
      exact ⟨pm_any n a b (Ty.kids_ok hS ha) (Ty.kids_ok hU hb) (by omega) (by omega) hl, pm_any n b a (Ty.kids_ok hU hb) (Ty.kids_ok hS ha) (by omega) (by omega) (by omega)⟩
    constructor
    · intro w
      refine plus_w S T _ w hS hT hS64 hT64 fun hh W => parts_p (f := fun a b => (pmN n a b).1) (g := fun a b => (pmN n a b).2) hS hT hS64 hT64 hh ?_ ?_ W
      · intro a ha b hb
        have ha1 := Ty.kid_code ha
        have hb1 := Ty.kid_code hb
        exact (key T hT hT64 a ha b hb (by omega)).1.1
      · intro a ha b hb
        have ha1 := Ty.kid_code ha
        have hb1 := Ty.kid_code hb
        exact (key T hT hT64 a ha b hb (by omega)).2.2
    · intro w
      refine minus_w S T _ _ w hS hT hS64 hT64 rfl fun h63 hh W => parts_m (f := fun a b => (pmN n a b).2) (g := fun a b => (pmN n a b).1) hS hUok hS64 hU64 hh ?_ ?_ W
      · intro a ha b hb
        exact (key _ hUok hU64 a ha b hb (kid_sum hn ha hb)).1.2
      · intro a ha b hb
        exact (key _ hUok hU64 a ha b hb (kid_sum hn ha hb)).2.1

theorem goodS_any (s : ByteArray) (w : World) (hs : s.size ≤ 4611686018427387904) : Calls Tryz.prog 79 #[.string s] w fun e w' => e = .returned (.bool (isB s)) ∧ w = w' := by
  have hc := check_any s w hs
  unfold isB
  generalize checkL s.data.toList = R at *
  obtain ⟨a, b⟩ := R
  simp only at hc ⊢
  go_enter Tryz.func79, Tryz.ntmps79
  go_wp2_with (go_at_call 94; refine hc.mono ?_; rintro e w' ⟨rfl, rfl⟩)
  go_ret
  exact ⟨retV (congrArg Value.bool (by rw [Bool.eq_iff_iff]; simp)), rfl⟩

theorem Sides_any (S T : Ty) (w : World) (hS : S.ok) (hT : T.ok) (hS64 : S.code.length ≤ 64) (hT64 : T.code.length ≤ 64) :
    Calls Tryz.prog 41 #[.string (str S), .string (str T)] w fun e w' => e = .returned (.tuple #[.bool (plusT S T), .bool (minusT S T)]) ∧ Below w.heap.size w w' := by
  have h1 := fun W => goodS_any (str S) W (by simp [str]; omega)
  have h2 := fun W => goodS_any (str T) W (by simp [str]; omega)
  rw [isB_str hS hS64] at h1
  rw [isB_str hT hT64] at h2
  obtain ⟨hp, hm⟩ := pm_any _ S T hS hT hS64 hT64 (Nat.le_refl _)
  unfold AskQ at hp hm
  change ∀ w, Calls _ _ _ w fun e w' => e = .returned (.bool (plusT S T)) ∧ _ at hp
  change ∀ w, Calls _ _ _ w fun e w' => e = .returned (.bool (minusT S T)) ∧ _ at hm
  generalize plusT S T = p at *
  generalize minusT S T = m at *
  generalize str S = s at *
  generalize str T = t at *
  clear hS hT hS64 hT64
  have hP : ∀ W, Calls Tryz.prog 55 #[.string s, .string t] W fun e w' => e = .returned (.bool p) ∧ Below W.heap.size W w' := by
    intro W
    clear hm
    go_enter Tryz.func55, Tryz.ntmps55
    go_wp2_with fail
    (refine (h1 _).mono ?_); rintro e w1 ⟨rfl, rfl⟩
    go_wp2_with fail
    (refine (h2 _).mono ?_); rintro e w1 ⟨rfl, rfl⟩
    go_wp2_with fail
    (refine (hp _).mono ?_); rintro e w1 ⟨rfl, hb⟩
    go_wp2_with fail
    go_ret
    exact ⟨rfl, hb⟩
  have hM : ∀ W, Calls Tryz.prog 56 #[.string s, .string t] W fun e w' => e = .returned (.bool m) ∧ Below W.heap.size W w' := by
    intro W
    clear hp hP
    go_enter Tryz.func56, Tryz.ntmps56
    go_wp2_with fail
    (refine (h1 _).mono ?_); rintro e w1 ⟨rfl, rfl⟩
    go_wp2_with fail
    (refine (h2 _).mono ?_); rintro e w1 ⟨rfl, rfl⟩
    go_wp2_with fail
    (refine (hm _).mono ?_); rintro e w1 ⟨rfl, hb⟩
    go_wp2_with fail
    go_ret
    exact ⟨rfl, hb⟩
  clear h1 h2 hp hm
  go_enter Tryz.func41, Tryz.ntmps41
  go_wp2_with fail
  (refine (hP _).mono ?_); rintro e w1 ⟨rfl, hb1⟩
  go_wp2_with fail
  (refine (hM _).mono ?_); rintro e w2 ⟨rfl, hb2⟩
  go_wp2_with fail
  go_ret2
  exact ⟨rfl, bl hb1 hb2⟩
end Go.Proofs.YtmagljnlfponaaaGreat.J

/- RtV -/
namespace Go.Proofs.YtmagljnlfponaaaGreat.R
open Go.RowKit Go.Proofs.YtmagljnlfponaaaGreat.B Go.Proofs.YtmagljnlfponaaaGreat.T Go.Proofs.YtmagljnlfponaaaGreat.K Go.Proofs.YtmagljnlfponaaaGreat.J
set_option linter.unusedVariables false
set_option linter.unusedSimpArgs false

/-- What Part answers. -/
def PtQ (s : ByteArray) (i : Int) (x : ByteArray) : Prop := ∀ w, Calls Tryz.prog 45 #[.string s, .int .i64 i] w fun e w' => e = .returned (.string x) ∧ w = w'
theorem PtQ.of {T : Ty} {i : Nat} {x : Ty} (hT : T.ok) (h64 : T.code.length ≤ 64) (hi : T.kids[i]? = some x) : PtQ (str T) (i : Nat) (str x) := fun w => part04_any T i x w hT h64 hi
/-- What Ground answers. -/
def GrQ (h : Int) (x : ByteArray) : Prop := ∀ w, Calls Tryz.prog 46 #[.int .u8 h] w fun e w' => e = .returned (.string x) ∧ Below w.heap.size w w'
theorem GrQ.of {S : Ty} (hS : S.ok) : GrQ (S.head.toNat : Int) (str (grd S)) := fun w => by
  have h := ground04_any S.head S.kids.length w (Ty.kids_le S) (fun W => partsK_any S hS W)
  have e : bs (grL S.head S.kids.length) = str (grd S) := by
    unfold str
    congr 1
    cases S <;> rfl
  rw [e] at h
  exact h

set_option maxRecDepth 100000 in
theorem p62t (s t u a b c d : ByteArray) (r : Bool) (p1 : 0 < s.size) (e1 : s[0] = 62) (p2 : 0 < t.size) (p3 : 0 < u.size) (e3 : u[0] = 62) (htu : t = u) (ht0 : PtQ u 0 c) (hs0 : PtQ s 0 a) (hs1 : PtQ s 1 b) (ht1 : PtQ u 1 d) (h1 : AskQ 33 c a true) (h2 : AskQ 32 b d r) : AskQ 32 s t r := by
  intro w
  subst htu
  have Ht0 := Lib.hid ht0
  have Hs0 := Lib.hid hs0
  have Hs1 := Lib.hid hs1
  have Ht1 := Lib.hid ht1
  have H1 := Lib.hid h1
  have H2 := Lib.hid h2
  clear ht0 hs0 hs1 ht1 h1 h2
  go_enter Tryz.func32, Tryz.ntmps32
  go_wp2_with fail
  go_quiet (fail)
  go_wp2_with fail
  (refine (Ht0.out _).mono ?_); rintro e w1 ⟨rfl, rfl⟩
  go_wp2_with fail
  (refine (Hs0.out _).mono ?_); rintro e w1 ⟨rfl, rfl⟩
  go_wp2_with fail
  (refine (H1.out _).mono ?_); rintro e w5 ⟨rfl, hb5⟩
  have HB5 := Lib.hid hb5
  clear hb5
  go_wp2_with fail
  (refine (Hs1.out _).mono ?_); rintro e w6 ⟨rfl, rfl⟩
  go_wp2_with fail
  (refine (Ht1.out _).mono ?_); rintro e w6 ⟨rfl, rfl⟩
  go_wp2_with fail
  (refine (H2.out _).mono ?_); rintro e w7 ⟨rfl, hb7⟩
  have HB7 := Lib.hid hb7
  clear hb7
  go_wp2_with fail
  go_ret
  exact ⟨rfl, bl (bl (below_drewN (Below.refl _ _) _) HB5.out) HB7.out⟩

set_option maxRecDepth 100000 in
theorem p62f (s t u a b c d : ByteArray) (r : Bool) (p1 : 0 < s.size) (e1 : s[0] = 62) (p2 : 0 < t.size) (p3 : 0 < u.size) (e3 : u[0] = 62) (htu : t = u) (ht0 : PtQ u 0 c) (hs0 : PtQ s 0 a) (h1 : AskQ 33 c a false) : AskQ 32 s t false := by
  intro w
  subst htu
  have Ht0 := Lib.hid ht0
  have Hs0 := Lib.hid hs0
  have H1 := Lib.hid h1
  clear ht0 hs0 h1
  go_enter Tryz.func32, Tryz.ntmps32
  go_wp2_with fail
  go_quiet (fail)
  go_wp2_with fail
  (refine (Ht0.out _).mono ?_); rintro e w1 ⟨rfl, rfl⟩
  go_wp2_with fail
  (refine (Hs0.out _).mono ?_); rintro e w1 ⟨rfl, rfl⟩
  go_wp2_with fail
  (refine (H1.out _).mono ?_); rintro e w5 ⟨rfl, hb5⟩
  have HB5 := Lib.hid hb5
  clear hb5
  go_wp2_with fail
  go_ret
  exact ⟨rfl, bl (below_drewN (Below.refl _ _) _) HB5.out⟩

set_option maxRecDepth 100000 in
theorem p44t (s t u a b c d : ByteArray) (r : Bool) (p1 : 0 < s.size) (e1 : s[0] = 44) (p2 : 0 < t.size) (p3 : 0 < u.size) (e3 : u[0] = 44) (htu : t = u) (hs0 : PtQ s 0 a) (ht0 : PtQ u 0 c) (hs1 : PtQ s 1 b) (ht1 : PtQ u 1 d) (h1 : AskQ 32 a c true) (h2 : AskQ 32 b d r) : AskQ 32 s t r := by
  intro w
  subst htu
  have Hs0 := Lib.hid hs0
  have Ht0 := Lib.hid ht0
  have Hs1 := Lib.hid hs1
  have Ht1 := Lib.hid ht1
  have H1 := Lib.hid h1
  have H2 := Lib.hid h2
  clear hs0 ht0 hs1 ht1 h1 h2
  go_enter Tryz.func32, Tryz.ntmps32
  go_wp2_with fail
  go_quiet (fail)
  go_wp2_with fail
  (refine (Hs0.out _).mono ?_); rintro e w1 ⟨rfl, rfl⟩
  go_wp2_with fail
  (refine (Ht0.out _).mono ?_); rintro e w1 ⟨rfl, rfl⟩
  go_wp2_with fail
  (refine (H1.out _).mono ?_); rintro e w5 ⟨rfl, hb5⟩
  have HB5 := Lib.hid hb5
  clear hb5
  go_wp2_with fail
  (refine (Hs1.out _).mono ?_); rintro e w6 ⟨rfl, rfl⟩
  go_wp2_with fail
  (refine (Ht1.out _).mono ?_); rintro e w6 ⟨rfl, rfl⟩
  go_wp2_with fail
  (refine (H2.out _).mono ?_); rintro e w7 ⟨rfl, hb7⟩
  have HB7 := Lib.hid hb7
  clear hb7
  go_wp2_with fail
  go_ret
  exact ⟨rfl, bl (bl (below_drewN (Below.refl _ _) _) HB5.out) HB7.out⟩

set_option maxRecDepth 100000 in
theorem p44f (s t u a b c d : ByteArray) (r : Bool) (p1 : 0 < s.size) (e1 : s[0] = 44) (p2 : 0 < t.size) (p3 : 0 < u.size) (e3 : u[0] = 44) (htu : t = u) (hs0 : PtQ s 0 a) (ht0 : PtQ u 0 c) (h1 : AskQ 32 a c false) : AskQ 32 s t false := by
  intro w
  subst htu
  have Hs0 := Lib.hid hs0
  have Ht0 := Lib.hid ht0
  have H1 := Lib.hid h1
  clear hs0 ht0 h1
  go_enter Tryz.func32, Tryz.ntmps32
  go_wp2_with fail
  go_quiet (fail)
  go_wp2_with fail
  (refine (Hs0.out _).mono ?_); rintro e w1 ⟨rfl, rfl⟩
  go_wp2_with fail
  (refine (Ht0.out _).mono ?_); rintro e w1 ⟨rfl, rfl⟩
  go_wp2_with fail
  (refine (H1.out _).mono ?_); rintro e w5 ⟨rfl, hb5⟩
  have HB5 := Lib.hid hb5
  clear hb5
  go_wp2_with fail
  go_ret
  exact ⟨rfl, bl (below_drewN (Below.refl _ _) _) HB5.out⟩

set_option maxRecDepth 100000 in
theorem p108 (s t u a b c d : ByteArray) (r : Bool) (p1 : 0 < s.size) (e1 : s[0] = 108) (p2 : 0 < t.size) (p3 : 0 < u.size) (e3 : u[0] = 108) (htu : t = u) (hs0 : PtQ s 0 a) (ht0 : PtQ u 0 c) (h1 : AskQ 32 a c r) : AskQ 32 s t r := by
  intro w
  subst htu
  have Hs0 := Lib.hid hs0
  have Ht0 := Lib.hid ht0
  have H1 := Lib.hid h1
  clear hs0 ht0 h1
  go_enter Tryz.func32, Tryz.ntmps32
  go_wp2_with fail
  go_quiet (fail)
  go_wp2_with fail
  (refine (Hs0.out _).mono ?_); rintro e w1 ⟨rfl, rfl⟩
  go_wp2_with fail
  (refine (Ht0.out _).mono ?_); rintro e w1 ⟨rfl, rfl⟩
  go_wp2_with fail
  (refine (H1.out _).mono ?_); rintro e w5 ⟨rfl, hb5⟩
  have HB5 := Lib.hid hb5
  clear hb5
  go_wp2_with fail
  go_ret
  exact ⟨rfl, bl (below_drewN (Below.refl _ _) _) HB5.out⟩

set_option maxRecDepth 100000 in
theorem p120t (s t u a b c d : ByteArray) (r : Bool) (p1 : 0 < s.size) (e1 : s[0] = 120) (p2 : 0 < t.size) (p3 : 0 < u.size) (e3 : u[0] = 120) (htu : t = u) (hs0 : PtQ s 0 a) (ht0 : PtQ u 0 c) (h1 : AskQ 32 a c true) (h2 : AskQ 33 c a r) : AskQ 32 s t r := by
  intro w
  subst htu
  have Hs0 := Lib.hid hs0
  have Ht0 := Lib.hid ht0
  have H1 := Lib.hid h1
  have H2 := Lib.hid h2
  clear hs0 ht0 h1 h2
  go_enter Tryz.func32, Tryz.ntmps32
  go_wp2_with fail
  go_quiet (fail)
  go_wp2_with fail
  (refine (Hs0.out _).mono ?_); rintro e w1 ⟨rfl, rfl⟩
  go_wp2_with fail
  (refine (Ht0.out _).mono ?_); rintro e w1 ⟨rfl, rfl⟩
  go_wp2_with fail
  (refine (H1.out _).mono ?_); rintro e w5 ⟨rfl, hb5⟩
  have HB5 := Lib.hid hb5
  clear hb5
  go_wp2_with fail
  (refine (Ht0.out _).mono ?_); rintro e w6 ⟨rfl, rfl⟩
  go_wp2_with fail
  (refine (Hs0.out _).mono ?_); rintro e w6 ⟨rfl, rfl⟩
  go_wp2_with fail
  (refine (H2.out _).mono ?_); rintro e w7 ⟨rfl, hb7⟩
  have HB7 := Lib.hid hb7
  clear hb7
  go_wp2_with fail
  go_ret
  exact ⟨rfl, bl (bl (below_drewN (Below.refl _ _) _) HB5.out) HB7.out⟩

set_option maxRecDepth 100000 in
theorem p120f (s t u a b c d : ByteArray) (r : Bool) (p1 : 0 < s.size) (e1 : s[0] = 120) (p2 : 0 < t.size) (p3 : 0 < u.size) (e3 : u[0] = 120) (htu : t = u) (hs0 : PtQ s 0 a) (ht0 : PtQ u 0 c) (h1 : AskQ 32 a c false) : AskQ 32 s t false := by
  intro w
  subst htu
  have Hs0 := Lib.hid hs0
  have Ht0 := Lib.hid ht0
  have H1 := Lib.hid h1
  clear hs0 ht0 h1
  go_enter Tryz.func32, Tryz.ntmps32
  go_wp2_with fail
  go_quiet (fail)
  go_wp2_with fail
  (refine (Hs0.out _).mono ?_); rintro e w1 ⟨rfl, rfl⟩
  go_wp2_with fail
  (refine (Ht0.out _).mono ?_); rintro e w1 ⟨rfl, rfl⟩
  go_wp2_with fail
  (refine (H1.out _).mono ?_); rintro e w5 ⟨rfl, hb5⟩
  have HB5 := Lib.hid hb5
  clear hb5
  go_wp2_with fail
  go_ret
  exact ⟨rfl, bl (below_drewN (Below.refl _ _) _) HB5.out⟩

set_option maxRecDepth 100000 in
theorem m62t (s t u a b c d : ByteArray) (r : Bool) (p1 : 0 < s.size) (e1 : s[0] = 62) (p2 : 0 < t.size) (p3 : 0 < u.size) (e3 : u[0] = 62) (htu : t = u) (ht0 : PtQ u 0 c) (hs0 : PtQ s 0 a) (hs1 : PtQ s 1 b) (ht1 : PtQ u 1 d) (h1 : AskQ 32 c a true) (h2 : AskQ 33 b d r) : AskQ 33 s t r := by
  intro w
  subst htu
  have Ht0 := Lib.hid ht0
  have Hs0 := Lib.hid hs0
  have Hs1 := Lib.hid hs1
  have Ht1 := Lib.hid ht1
  have H1 := Lib.hid h1
  have H2 := Lib.hid h2
  clear ht0 hs0 hs1 ht1 h1 h2
  go_enter Tryz.func33, Tryz.ntmps33
  go_wp2_with fail
  go_quiet (fail)
  go_wp2_with fail
  (refine (Ht0.out _).mono ?_); rintro e w1 ⟨rfl, rfl⟩
  go_wp2_with fail
  (refine (Hs0.out _).mono ?_); rintro e w1 ⟨rfl, rfl⟩
  go_wp2_with fail
  (refine (H1.out _).mono ?_); rintro e w5 ⟨rfl, hb5⟩
  have HB5 := Lib.hid hb5
  clear hb5
  go_wp2_with fail
  (refine (Hs1.out _).mono ?_); rintro e w6 ⟨rfl, rfl⟩
  go_wp2_with fail
  (refine (Ht1.out _).mono ?_); rintro e w6 ⟨rfl, rfl⟩
  go_wp2_with fail
  (refine (H2.out _).mono ?_); rintro e w7 ⟨rfl, hb7⟩
  have HB7 := Lib.hid hb7
  clear hb7
  go_wp2_with fail
  go_ret
  exact ⟨rfl, bl (bl (below_drewN (Below.refl _ _) _) HB5.out) HB7.out⟩

set_option maxRecDepth 100000 in
theorem m62f (s t u a b c d : ByteArray) (r : Bool) (p1 : 0 < s.size) (e1 : s[0] = 62) (p2 : 0 < t.size) (p3 : 0 < u.size) (e3 : u[0] = 62) (htu : t = u) (ht0 : PtQ u 0 c) (hs0 : PtQ s 0 a) (h1 : AskQ 32 c a false) : AskQ 33 s t false := by
  intro w
  subst htu
  have Ht0 := Lib.hid ht0
  have Hs0 := Lib.hid hs0
  have H1 := Lib.hid h1
  clear ht0 hs0 h1
  go_enter Tryz.func33, Tryz.ntmps33
  go_wp2_with fail
  go_quiet (fail)
  go_wp2_with fail
  (refine (Ht0.out _).mono ?_); rintro e w1 ⟨rfl, rfl⟩
  go_wp2_with fail
  (refine (Hs0.out _).mono ?_); rintro e w1 ⟨rfl, rfl⟩
  go_wp2_with fail
  (refine (H1.out _).mono ?_); rintro e w5 ⟨rfl, hb5⟩
  have HB5 := Lib.hid hb5
  clear hb5
  go_wp2_with fail
  go_ret
  exact ⟨rfl, bl (below_drewN (Below.refl _ _) _) HB5.out⟩

set_option maxRecDepth 100000 in
theorem m44t (s t u a b c d : ByteArray) (r : Bool) (p1 : 0 < s.size) (e1 : s[0] = 44) (p2 : 0 < t.size) (p3 : 0 < u.size) (e3 : u[0] = 44) (htu : t = u) (hs0 : PtQ s 0 a) (ht0 : PtQ u 0 c) (hs1 : PtQ s 1 b) (ht1 : PtQ u 1 d) (h1 : AskQ 33 a c true) (h2 : AskQ 33 b d r) : AskQ 33 s t r := by
  intro w
  subst htu
  have Hs0 := Lib.hid hs0
  have Ht0 := Lib.hid ht0
  have Hs1 := Lib.hid hs1
  have Ht1 := Lib.hid ht1
  have H1 := Lib.hid h1
  have H2 := Lib.hid h2
  clear hs0 ht0 hs1 ht1 h1 h2
  go_enter Tryz.func33, Tryz.ntmps33
  go_wp2_with fail
  go_quiet (fail)
  go_wp2_with fail
  (refine (Hs0.out _).mono ?_); rintro e w1 ⟨rfl, rfl⟩
  go_wp2_with fail
  (refine (Ht0.out _).mono ?_); rintro e w1 ⟨rfl, rfl⟩
  go_wp2_with fail
  (refine (H1.out _).mono ?_); rintro e w5 ⟨rfl, hb5⟩
  have HB5 := Lib.hid hb5
  clear hb5
  go_wp2_with fail
  (refine (Hs1.out _).mono ?_); rintro e w6 ⟨rfl, rfl⟩
  go_wp2_with fail
  (refine (Ht1.out _).mono ?_); rintro e w6 ⟨rfl, rfl⟩
  go_wp2_with fail
  (refine (H2.out _).mono ?_); rintro e w7 ⟨rfl, hb7⟩
  have HB7 := Lib.hid hb7
  clear hb7
  go_wp2_with fail
  go_ret
  exact ⟨rfl, bl (bl (below_drewN (Below.refl _ _) _) HB5.out) HB7.out⟩

set_option maxRecDepth 100000 in
theorem m44f (s t u a b c d : ByteArray) (r : Bool) (p1 : 0 < s.size) (e1 : s[0] = 44) (p2 : 0 < t.size) (p3 : 0 < u.size) (e3 : u[0] = 44) (htu : t = u) (hs0 : PtQ s 0 a) (ht0 : PtQ u 0 c) (h1 : AskQ 33 a c false) : AskQ 33 s t false := by
  intro w
  subst htu
  have Hs0 := Lib.hid hs0
  have Ht0 := Lib.hid ht0
  have H1 := Lib.hid h1
  clear hs0 ht0 h1
  go_enter Tryz.func33, Tryz.ntmps33
  go_wp2_with fail
  go_quiet (fail)
  go_wp2_with fail
  (refine (Hs0.out _).mono ?_); rintro e w1 ⟨rfl, rfl⟩
  go_wp2_with fail
  (refine (Ht0.out _).mono ?_); rintro e w1 ⟨rfl, rfl⟩
  go_wp2_with fail
  (refine (H1.out _).mono ?_); rintro e w5 ⟨rfl, hb5⟩
  have HB5 := Lib.hid hb5
  clear hb5
  go_wp2_with fail
  go_ret
  exact ⟨rfl, bl (below_drewN (Below.refl _ _) _) HB5.out⟩

set_option maxRecDepth 100000 in
theorem m108 (s t u a b c d : ByteArray) (r : Bool) (p1 : 0 < s.size) (e1 : s[0] = 108) (p2 : 0 < t.size) (p3 : 0 < u.size) (e3 : u[0] = 108) (htu : t = u) (hs0 : PtQ s 0 a) (ht0 : PtQ u 0 c) (h1 : AskQ 33 a c r) : AskQ 33 s t r := by
  intro w
  subst htu
  have Hs0 := Lib.hid hs0
  have Ht0 := Lib.hid ht0
  have H1 := Lib.hid h1
  clear hs0 ht0 h1
  go_enter Tryz.func33, Tryz.ntmps33
  go_wp2_with fail
  go_quiet (fail)
  go_wp2_with fail
  (refine (Hs0.out _).mono ?_); rintro e w1 ⟨rfl, rfl⟩
  go_wp2_with fail
  (refine (Ht0.out _).mono ?_); rintro e w1 ⟨rfl, rfl⟩
  go_wp2_with fail
  (refine (H1.out _).mono ?_); rintro e w5 ⟨rfl, hb5⟩
  have HB5 := Lib.hid hb5
  clear hb5
  go_wp2_with fail
  go_ret
  exact ⟨rfl, bl (below_drewN (Below.refl _ _) _) HB5.out⟩

set_option maxRecDepth 100000 in
theorem m120t (s t u a b c d : ByteArray) (r : Bool) (p1 : 0 < s.size) (e1 : s[0] = 120) (p2 : 0 < t.size) (p3 : 0 < u.size) (e3 : u[0] = 120) (htu : t = u) (hs0 : PtQ s 0 a) (ht0 : PtQ u 0 c) (h1 : AskQ 33 a c true) (h2 : AskQ 32 c a r) : AskQ 33 s t r := by
  intro w
  subst htu
  have Hs0 := Lib.hid hs0
  have Ht0 := Lib.hid ht0
  have H1 := Lib.hid h1
  have H2 := Lib.hid h2
  clear hs0 ht0 h1 h2
  go_enter Tryz.func33, Tryz.ntmps33
  go_wp2_with fail
  go_quiet (fail)
  go_wp2_with fail
  (refine (Hs0.out _).mono ?_); rintro e w1 ⟨rfl, rfl⟩
  go_wp2_with fail
  (refine (Ht0.out _).mono ?_); rintro e w1 ⟨rfl, rfl⟩
  go_wp2_with fail
  (refine (H1.out _).mono ?_); rintro e w5 ⟨rfl, hb5⟩
  have HB5 := Lib.hid hb5
  clear hb5
  go_wp2_with fail
  (refine (Ht0.out _).mono ?_); rintro e w6 ⟨rfl, rfl⟩
  go_wp2_with fail
  (refine (Hs0.out _).mono ?_); rintro e w6 ⟨rfl, rfl⟩
  go_wp2_with fail
  (refine (H2.out _).mono ?_); rintro e w7 ⟨rfl, hb7⟩
  have HB7 := Lib.hid hb7
  clear hb7
  go_wp2_with fail
  go_ret
  exact ⟨rfl, bl (bl (below_drewN (Below.refl _ _) _) HB5.out) HB7.out⟩

set_option maxRecDepth 100000 in
theorem m120f (s t u a b c d : ByteArray) (r : Bool) (p1 : 0 < s.size) (e1 : s[0] = 120) (p2 : 0 < t.size) (p3 : 0 < u.size) (e3 : u[0] = 120) (htu : t = u) (hs0 : PtQ s 0 a) (ht0 : PtQ u 0 c) (h1 : AskQ 33 a c false) : AskQ 33 s t false := by
  intro w
  subst htu
  have Hs0 := Lib.hid hs0
  have Ht0 := Lib.hid ht0
  have H1 := Lib.hid h1
  clear hs0 ht0 h1
  go_enter Tryz.func33, Tryz.ntmps33
  go_wp2_with fail
  go_quiet (fail)
  go_wp2_with fail
  (refine (Hs0.out _).mono ?_); rintro e w1 ⟨rfl, rfl⟩
  go_wp2_with fail
  (refine (Ht0.out _).mono ?_); rintro e w1 ⟨rfl, rfl⟩
  go_wp2_with fail
  (refine (H1.out _).mono ?_); rintro e w5 ⟨rfl, hb5⟩
  have HB5 := Lib.hid hb5
  clear hb5
  go_wp2_with fail
  go_ret
  exact ⟨rfl, bl (below_drewN (Below.refl _ _) _) HB5.out⟩

set_option maxRecDepth 100000 in
theorem m62gt (s t u a b c d : ByteArray) (r : Bool) (p1 : 0 < s.size) (e1 : s[0] = 62) (p2 : 0 < t.size) (p3 : 0 < u.size) (e3 : u[0] = 62) (e2 : t[0] = 63) (hg : GrQ 62 u) (ht0 : PtQ u 0 c) (hs0 : PtQ s 0 a) (hs1 : PtQ s 1 b) (ht1 : PtQ u 1 d) (h1 : AskQ 32 c a true) (h2 : AskQ 33 b d r) : AskQ 33 s t r := by
  intro w
  have Ht0 := Lib.hid ht0
  have Hs0 := Lib.hid hs0
  have Hs1 := Lib.hid hs1
  have Ht1 := Lib.hid ht1
  have H1 := Lib.hid h1
  have H2 := Lib.hid h2
  have HG := Lib.hid hg
  clear ht0 hs0 hs1 ht1 h1 h2 hg
  go_enter Tryz.func33, Tryz.ntmps33
  go_wp2_with fail
  (refine (HG.out _).mono ?_); rintro e w0 ⟨rfl, hb0⟩
  have HB0 := Lib.hid hb0
  clear hb0
  go_wp2_with fail
  go_quiet (fail)
  go_wp2_with fail
  (refine (Ht0.out _).mono ?_); rintro e w1 ⟨rfl, rfl⟩
  go_wp2_with fail
  (refine (Hs0.out _).mono ?_); rintro e w1 ⟨rfl, rfl⟩
  go_wp2_with fail
  (refine (H1.out _).mono ?_); rintro e w5 ⟨rfl, hb5⟩
  have HB5 := Lib.hid hb5
  clear hb5
  go_wp2_with fail
  (refine (Hs1.out _).mono ?_); rintro e w6 ⟨rfl, rfl⟩
  go_wp2_with fail
  (refine (Ht1.out _).mono ?_); rintro e w6 ⟨rfl, rfl⟩
  go_wp2_with fail
  (refine (H2.out _).mono ?_); rintro e w7 ⟨rfl, hb7⟩
  have HB7 := Lib.hid hb7
  clear hb7
  go_wp2_with fail
  go_ret
  exact ⟨rfl, bl (bl (below_drewN HB0.out _) HB5.out) HB7.out⟩

set_option maxRecDepth 100000 in
theorem m62gf (s t u a b c d : ByteArray) (r : Bool) (p1 : 0 < s.size) (e1 : s[0] = 62) (p2 : 0 < t.size) (p3 : 0 < u.size) (e3 : u[0] = 62) (e2 : t[0] = 63) (hg : GrQ 62 u) (ht0 : PtQ u 0 c) (hs0 : PtQ s 0 a) (h1 : AskQ 32 c a false) : AskQ 33 s t false := by
  intro w
  have Ht0 := Lib.hid ht0
  have Hs0 := Lib.hid hs0
  have H1 := Lib.hid h1
  have HG := Lib.hid hg
  clear ht0 hs0 h1 hg
  go_enter Tryz.func33, Tryz.ntmps33
  go_wp2_with fail
  (refine (HG.out _).mono ?_); rintro e w0 ⟨rfl, hb0⟩
  have HB0 := Lib.hid hb0
  clear hb0
  go_wp2_with fail
  go_quiet (fail)
  go_wp2_with fail
  (refine (Ht0.out _).mono ?_); rintro e w1 ⟨rfl, rfl⟩
  go_wp2_with fail
  (refine (Hs0.out _).mono ?_); rintro e w1 ⟨rfl, rfl⟩
  go_wp2_with fail
  (refine (H1.out _).mono ?_); rintro e w5 ⟨rfl, hb5⟩
  have HB5 := Lib.hid hb5
  clear hb5
  go_wp2_with fail
  go_ret
  exact ⟨rfl, bl (below_drewN HB0.out _) HB5.out⟩

set_option maxRecDepth 100000 in
theorem m44gt (s t u a b c d : ByteArray) (r : Bool) (p1 : 0 < s.size) (e1 : s[0] = 44) (p2 : 0 < t.size) (p3 : 0 < u.size) (e3 : u[0] = 44) (e2 : t[0] = 63) (hg : GrQ 44 u) (hs0 : PtQ s 0 a) (ht0 : PtQ u 0 c) (hs1 : PtQ s 1 b) (ht1 : PtQ u 1 d) (h1 : AskQ 33 a c true) (h2 : AskQ 33 b d r) : AskQ 33 s t r := by
  intro w
  have Hs0 := Lib.hid hs0
  have Ht0 := Lib.hid ht0
  have Hs1 := Lib.hid hs1
  have Ht1 := Lib.hid ht1
  have H1 := Lib.hid h1
  have H2 := Lib.hid h2
  have HG := Lib.hid hg
  clear hs0 ht0 hs1 ht1 h1 h2 hg
  go_enter Tryz.func33, Tryz.ntmps33
  go_wp2_with fail
  (refine (HG.out _).mono ?_); rintro e w0 ⟨rfl, hb0⟩
  have HB0 := Lib.hid hb0
  clear hb0
  go_wp2_with fail
  go_quiet (fail)
  go_wp2_with fail
  (refine (Hs0.out _).mono ?_); rintro e w1 ⟨rfl, rfl⟩
  go_wp2_with fail
  (refine (Ht0.out _).mono ?_); rintro e w1 ⟨rfl, rfl⟩
  go_wp2_with fail
  (refine (H1.out _).mono ?_); rintro e w5 ⟨rfl, hb5⟩
  have HB5 := Lib.hid hb5
  clear hb5
  go_wp2_with fail
  (refine (Hs1.out _).mono ?_); rintro e w6 ⟨rfl, rfl⟩
  go_wp2_with fail
  (refine (Ht1.out _).mono ?_); rintro e w6 ⟨rfl, rfl⟩
  go_wp2_with fail
  (refine (H2.out _).mono ?_); rintro e w7 ⟨rfl, hb7⟩
  have HB7 := Lib.hid hb7
  clear hb7
  go_wp2_with fail
  go_ret
  exact ⟨rfl, bl (bl (below_drewN HB0.out _) HB5.out) HB7.out⟩

set_option maxRecDepth 100000 in
theorem m44gf (s t u a b c d : ByteArray) (r : Bool) (p1 : 0 < s.size) (e1 : s[0] = 44) (p2 : 0 < t.size) (p3 : 0 < u.size) (e3 : u[0] = 44) (e2 : t[0] = 63) (hg : GrQ 44 u) (hs0 : PtQ s 0 a) (ht0 : PtQ u 0 c) (h1 : AskQ 33 a c false) : AskQ 33 s t false := by
  intro w
  have Hs0 := Lib.hid hs0
  have Ht0 := Lib.hid ht0
  have H1 := Lib.hid h1
  have HG := Lib.hid hg
  clear hs0 ht0 h1 hg
  go_enter Tryz.func33, Tryz.ntmps33
  go_wp2_with fail
  (refine (HG.out _).mono ?_); rintro e w0 ⟨rfl, hb0⟩
  have HB0 := Lib.hid hb0
  clear hb0
  go_wp2_with fail
  go_quiet (fail)
  go_wp2_with fail
  (refine (Hs0.out _).mono ?_); rintro e w1 ⟨rfl, rfl⟩
  go_wp2_with fail
  (refine (Ht0.out _).mono ?_); rintro e w1 ⟨rfl, rfl⟩
  go_wp2_with fail
  (refine (H1.out _).mono ?_); rintro e w5 ⟨rfl, hb5⟩
  have HB5 := Lib.hid hb5
  clear hb5
  go_wp2_with fail
  go_ret
  exact ⟨rfl, bl (below_drewN HB0.out _) HB5.out⟩

set_option maxRecDepth 100000 in
theorem m108g (s t u a b c d : ByteArray) (r : Bool) (p1 : 0 < s.size) (e1 : s[0] = 108) (p2 : 0 < t.size) (p3 : 0 < u.size) (e3 : u[0] = 108) (e2 : t[0] = 63) (hg : GrQ 108 u) (hs0 : PtQ s 0 a) (ht0 : PtQ u 0 c) (h1 : AskQ 33 a c r) : AskQ 33 s t r := by
  intro w
  have Hs0 := Lib.hid hs0
  have Ht0 := Lib.hid ht0
  have H1 := Lib.hid h1
  have HG := Lib.hid hg
  clear hs0 ht0 h1 hg
  go_enter Tryz.func33, Tryz.ntmps33
  go_wp2_with fail
  (refine (HG.out _).mono ?_); rintro e w0 ⟨rfl, hb0⟩
  have HB0 := Lib.hid hb0
  clear hb0
  go_wp2_with fail
  go_quiet (fail)
  go_wp2_with fail
  (refine (Hs0.out _).mono ?_); rintro e w1 ⟨rfl, rfl⟩
  go_wp2_with fail
  (refine (Ht0.out _).mono ?_); rintro e w1 ⟨rfl, rfl⟩
  go_wp2_with fail
  (refine (H1.out _).mono ?_); rintro e w5 ⟨rfl, hb5⟩
  have HB5 := Lib.hid hb5
  clear hb5
  go_wp2_with fail
  go_ret
  exact ⟨rfl, bl (below_drewN HB0.out _) HB5.out⟩

set_option maxRecDepth 100000 in
theorem m120gt (s t u a b c d : ByteArray) (r : Bool) (p1 : 0 < s.size) (e1 : s[0] = 120) (p2 : 0 < t.size) (p3 : 0 < u.size) (e3 : u[0] = 120) (e2 : t[0] = 63) (hg : GrQ 120 u) (hs0 : PtQ s 0 a) (ht0 : PtQ u 0 c) (h1 : AskQ 33 a c true) (h2 : AskQ 32 c a r) : AskQ 33 s t r := by
  intro w
  have Hs0 := Lib.hid hs0
  have Ht0 := Lib.hid ht0
  have H1 := Lib.hid h1
  have H2 := Lib.hid h2
  have HG := Lib.hid hg
  clear hs0 ht0 h1 h2 hg
  go_enter Tryz.func33, Tryz.ntmps33
  go_wp2_with fail
  (refine (HG.out _).mono ?_); rintro e w0 ⟨rfl, hb0⟩
  have HB0 := Lib.hid hb0
  clear hb0
  go_wp2_with fail
  go_quiet (fail)
  go_wp2_with fail
  (refine (Hs0.out _).mono ?_); rintro e w1 ⟨rfl, rfl⟩
  go_wp2_with fail
  (refine (Ht0.out _).mono ?_); rintro e w1 ⟨rfl, rfl⟩
  go_wp2_with fail
  (refine (H1.out _).mono ?_); rintro e w5 ⟨rfl, hb5⟩
  have HB5 := Lib.hid hb5
  clear hb5
  go_wp2_with fail
  (refine (Ht0.out _).mono ?_); rintro e w6 ⟨rfl, rfl⟩
  go_wp2_with fail
  (refine (Hs0.out _).mono ?_); rintro e w6 ⟨rfl, rfl⟩
  go_wp2_with fail
  (refine (H2.out _).mono ?_); rintro e w7 ⟨rfl, hb7⟩
  have HB7 := Lib.hid hb7
  clear hb7
  go_wp2_with fail
  go_ret
  exact ⟨rfl, bl (bl (below_drewN HB0.out _) HB5.out) HB7.out⟩

set_option maxRecDepth 100000 in
theorem m120gf (s t u a b c d : ByteArray) (r : Bool) (p1 : 0 < s.size) (e1 : s[0] = 120) (p2 : 0 < t.size) (p3 : 0 < u.size) (e3 : u[0] = 120) (e2 : t[0] = 63) (hg : GrQ 120 u) (hs0 : PtQ s 0 a) (ht0 : PtQ u 0 c) (h1 : AskQ 33 a c false) : AskQ 33 s t false := by
  intro w
  have Hs0 := Lib.hid hs0
  have Ht0 := Lib.hid ht0
  have H1 := Lib.hid h1
  have HG := Lib.hid hg
  clear hs0 ht0 h1 hg
  go_enter Tryz.func33, Tryz.ntmps33
  go_wp2_with fail
  (refine (HG.out _).mono ?_); rintro e w0 ⟨rfl, hb0⟩
  have HB0 := Lib.hid hb0
  clear hb0
  go_wp2_with fail
  go_quiet (fail)
  go_wp2_with fail
  (refine (Hs0.out _).mono ?_); rintro e w1 ⟨rfl, rfl⟩
  go_wp2_with fail
  (refine (Ht0.out _).mono ?_); rintro e w1 ⟨rfl, rfl⟩
  go_wp2_with fail
  (refine (H1.out _).mono ?_); rintro e w5 ⟨rfl, hb5⟩
  have HB5 := Lib.hid hb5
  clear hb5
  go_wp2_with fail
  go_ret
  exact ⟨rfl, bl (below_drewN HB0.out _) HB5.out⟩

set_option maxRecDepth 100000 in
theorem pq (s t : ByteArray) (p2 : 0 < t.size) (e2 : t[0] = 63) : AskQ 32 s t true := by
  intro w
  go_enter Tryz.func32, Tryz.ntmps32
  go_wp2_with fail
  go_ret
  exact ⟨rfl, (Below.refl _ _)⟩

set_option maxRecDepth 100000 in
theorem pno (s t : ByteArray) (h k : UInt8) (p1 : 0 < s.size) (e1 : s[0] = h) (p2 : 0 < t.size) (e2 : t[0] = k) (hk : ((k.toNat : Int) == 63) = false) (hn : ((h.toNat : Int) != (k.toNat : Int)) = true) : AskQ 32 s t false := by
  intro w
  go_enter Tryz.func32, Tryz.ntmps32
  go_wp2_with fail
  go_quiet (fail)
  go_wp2_with fail
  go_ret
  exact ⟨rfl, below_drewN (Below.refl _ _) _⟩

set_option maxRecDepth 100000 in
theorem pleaf (s t : ByteArray) (h : UInt8) (p1 : 0 < s.size) (e1 : s[0] = h) (p2 : 0 < t.size) (e2 : t[0] = h) (k63 : ((h.toNat : Int) == 63) = false) (k62 : ((h.toNat : Int) == 62) = false) (k44 : ((h.toNat : Int) == 44) = false) (k108 : ((h.toNat : Int) == 108) = false) (k120 : ((h.toNat : Int) == 120) = false) : AskQ 32 s t true := by
  intro w
  go_enter Tryz.func32, Tryz.ntmps32
  go_wp2_with fail
  go_quiet (fail)
  go_wp2_with fail
  go_ret
  exact ⟨rfl, below_drewN (Below.refl _ _) _⟩

set_option maxRecDepth 100000 in
theorem mq (s t : ByteArray) (p1 : 0 < s.size) (e1 : s[0] = 63) : AskQ 33 s t true := by
  intro w
  go_enter Tryz.func33, Tryz.ntmps33
  go_wp2_with fail
  go_ret
  exact ⟨rfl, (Below.refl _ _)⟩

set_option maxRecDepth 100000 in
theorem mno (s t : ByteArray) (h k : UInt8) (p1 : 0 < s.size) (e1 : s[0] = h) (p2 : 0 < t.size) (e2 : t[0] = k) (hk : ((k.toNat : Int) == 63) = false) (hh : ((h.toNat : Int) == 63) = false) (hn : ((h.toNat : Int) != (k.toNat : Int)) = true) : AskQ 33 s t true := by
  intro w
  go_enter Tryz.func33, Tryz.ntmps33
  go_wp2_with fail
  go_quiet (fail)
  go_wp2_with fail
  go_ret
  exact ⟨rfl, below_drewN (Below.refl _ _) _⟩

set_option maxRecDepth 100000 in
theorem mleaf (s t : ByteArray) (h : UInt8) (p1 : 0 < s.size) (e1 : s[0] = h) (p2 : 0 < t.size) (e2 : t[0] = h) (k63 : ((h.toNat : Int) == 63) = false) (k62 : ((h.toNat : Int) == 62) = false) (k44 : ((h.toNat : Int) == 44) = false) (k108 : ((h.toNat : Int) == 108) = false) (k120 : ((h.toNat : Int) == 120) = false) : AskQ 33 s t true := by
  intro w
  go_enter Tryz.func33, Tryz.ntmps33
  go_wp2_with fail
  go_quiet (fail)
  go_wp2_with fail
  go_ret
  exact ⟨rfl, below_drewN (Below.refl _ _) _⟩

set_option maxRecDepth 100000 in
theorem mleafg (s t : ByteArray) (u : ByteArray) (h : UInt8) (p1 : 0 < s.size) (e1 : s[0] = h) (p2 : 0 < t.size) (e2 : t[0] = 63) (p3 : 0 < u.size) (e3 : u[0] = h) (hg : GrQ (h.toNat : Int) u) (k63 : ((h.toNat : Int) == 63) = false) (k62 : ((h.toNat : Int) == 62) = false) (k44 : ((h.toNat : Int) == 44) = false) (k108 : ((h.toNat : Int) == 108) = false) (k120 : ((h.toNat : Int) == 120) = false) : AskQ 33 s t true := by
  intro w
  have HG := Lib.hid hg
  clear hg
  go_enter Tryz.func33, Tryz.ntmps33
  go_wp2_with fail
  (refine (HG.out _).mono ?_); rintro e w0 ⟨rfl, hb0⟩
  have HB0 := Lib.hid hb0
  clear hb0
  go_wp2_with fail
  go_quiet (fail)
  go_wp2_with fail
  go_ret
  exact ⟨rfl, below_drewN HB0.out _⟩
end Go.Proofs.YtmagljnlfponaaaGreat.R
