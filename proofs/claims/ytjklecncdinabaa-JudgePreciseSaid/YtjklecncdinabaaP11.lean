/- Parts of this claim: JuC, CkG. -/
import Derived.Deep.RegionHeld3
import Derived.Carry
import Derived.Test.YtjklecncdinabaaP10
import Derived.Test.YtjklecncdinabaaP02
import Derived.Test.YtjklecncdinabaaP08
import Derived.Test.YtjklecncdinabaaP04
set_option linter.unusedVariables false
set_option linter.unusedSimpArgs false
/- JuC -/
namespace Go.Proofs.Ytjklecncdinabaa.J
open Go.RowKit Go.Proofs.Ytjklecncdinabaa.B Go.Proofs.Ytjklecncdinabaa.T Go.Proofs.Ytjklecncdinabaa.K
set_option linter.unusedVariables false
set_option linter.unusedSimpArgs false

theorem ground_grd {S : Ty} (hS : S.ok) (hq : S.head ≠ 63) : bs (groundL S) = str (grd S) := by
  have ha := Ty.ar_head hS
  unfold groundL str
  rw [if_neg hq, ha]
  cases S <;> rfl

set_option maxRecDepth 100000 in
theorem plus_w (S T : Ty) (r : Bool) (w : World) (hS : S.ok) (hT : T.ok) (hS64 : S.code.length ≤ 64) (hT64 : T.code.length ≤ 64)
    (hp : S.head = T.head → ∀ W, Calls Try.prog 67 #[.string (str S), .string (str T), .agg #[fv 60, fv 61]] W fun e w' => e = .returned (.bool r) ∧ Below W.heap.size W w') :
    Calls Try.prog 60 #[.string (str S), .string (str T)] w fun e w' => e = .returned (.bool (if T.head = 63 then true else decide (S.head = T.head) && r)) ∧ Below w.heap.size w w' := by
  have h1 := fun W => Head_yes S W hS hS64
  have h2 := fun W => Head_yes T W hT hT64
  have hq := str_q hT
  have hbe := byte_eq S.head T.head
  unfold fv at hp
  generalize S.head = a at *
  generalize T.head = b at *
  generalize str S = s at *
  generalize str T = t at *
  clear hS hT hS64 hT64
  by_cases h63 : b = 63
  · rw [if_pos h63]
    have e1 : (t.toList == [63]) = true := by rw [hq, h63]; rfl
    clear hp h1 h2 hq hbe h63
    go_enter Try.func60, Try.ntmps60
    go_wp2_with fail
    go_ret
    exact ⟨rfl, Below.refl _ _⟩
  · rw [if_neg h63]
    have e1 : (t.toList == [63]) = false := by rw [hq]; simpa using h63
    by_cases hab : a = b
    · have e2 : ((a.toNat : Int) == (b.toNat : Int)) = true := by rw [hbe]; simpa using hab
      rw [decide_eq_true hab, Bool.true_and]
      have hp1 := hp hab
      clear hp hq hbe h63 hab
      go_enter Try.func60, Try.ntmps60
      go_wp2_with fail
      (refine (h1 _).mono ?_); rintro e w1 ⟨rfl, rfl⟩
      go_wp2_with fail
      (refine (h2 _).mono ?_); rintro e w1 ⟨rfl, rfl⟩
      go_wp2_with fail
      (refine (hp1 _).mono ?_); rintro e w1 ⟨rfl, hb1⟩
      go_wp2_with fail
      go_ret
      exact ⟨rfl, hb1⟩
    · have e2 : ((a.toNat : Int) == (b.toNat : Int)) = false := by rw [hbe]; simpa using hab
      rw [decide_eq_false hab, Bool.false_and]
      clear hp hq hbe h63 hab
      go_enter Try.func60, Try.ntmps60
      go_wp2_with fail
      (refine (h1 _).mono ?_); rintro e w1 ⟨rfl, rfl⟩
      go_wp2_with fail
      (refine (h2 _).mono ?_); rintro e w1 ⟨rfl, rfl⟩
      go_wp2_with fail
      go_ret
      exact ⟨rfl, Below.refl _ _⟩

set_option maxRecDepth 100000 in
theorem minus_w (S T U : Ty) (r : Bool) (w : World) (hS : S.ok) (hT : T.ok) (hS64 : S.code.length ≤ 64) (hT64 : T.code.length ≤ 64) (hU : U = if T.head = 63 then grd S else T)
    (hp : S.head ≠ 63 → S.head = U.head → ∀ W, Calls Try.prog 67 #[.string (str S), .string (str U), .agg #[fv 61, fv 60]] W fun e w' => e = .returned (.bool r) ∧ Below W.heap.size W w') :
    Calls Try.prog 61 #[.string (str S), .string (str T)] w fun e w' => e = .returned (.bool (if S.head = 63 then true else (!decide (S.head = U.head)) || r)) ∧ Below w.heap.size w w' := by
  have h1 := fun W => Head_yes S W hS hS64
  have hUok : U.ok := by rw [hU]; split; exact grd_ok hS; exact hT
  have hU64 : U.code.length ≤ 64 := by rw [hU]; split; exact Nat.le_trans (grd_len S) hS64; exact hT64
  have h2 := fun W => Head_yes U W hUok hU64
  have hqS := str_q hS
  have hqT := str_q hT
  have hbe := byte_neq S.head U.head
  unfold fv at hp
  by_cases h63 : S.head = 63
  · rw [if_pos h63]
    have e1 : ((str S).toList == [63]) = true := by rw [hqS, h63]; rfl
    generalize str S = s at *
    generalize str T = t at *
    clear hp h1 h2 hqS hqT hbe h63 hUok hU64 hU hS hT hS64 hT64
    go_enter Try.func61, Try.ntmps61
    go_wp2_with fail
    go_ret
    exact ⟨rfl, Below.refl _ _⟩
  rw [if_neg h63]
  have e1 : ((str S).toList == [63]) = false := by rw [hqS]; simpa using h63
  have hg := fun W => ground_any S W hS hS64 h63
  rw [ground_grd hS h63] at hg
  have hp0 := hp h63
  generalize S.head = a at *
  generalize U.head = b at *
  by_cases hT63 : T.head = 63
  · rw [if_pos hT63] at hU
    subst hU
    have e0 : ((str T).toList == [63]) = true := by rw [hqT, hT63]; rfl
    generalize str (grd S) = u at *
    generalize str S = s at *
    generalize str T = t at *
    clear hp hqS hqT h63 hUok hU64 hS hT hS64 hT64 hT63
    by_cases hab : a = b
    · have e2 : ((a.toNat : Int) != (b.toNat : Int)) = false := by rw [hbe]; simpa using hab
      rw [decide_eq_true hab, Bool.not_true, Bool.false_or]
      have hp1 := hp0 hab
      clear hp0 hbe hab
      go_enter Try.func61, Try.ntmps61
      go_wp2_with fail
      (refine (hg _).mono ?_); rintro e w1 ⟨rfl, hb0⟩
      go_wp2_with fail
      (refine (h1 _).mono ?_); rintro e w2 ⟨rfl, rfl⟩
      go_wp2_with fail
      (refine (h2 _).mono ?_); rintro e w2 ⟨rfl, rfl⟩
      go_wp2_with fail
      (refine (hp1 _).mono ?_); rintro e w2 ⟨rfl, hb1⟩
      go_wp2_with fail
      go_ret
      exact ⟨rfl, bl hb0 hb1⟩
    · have e2 : ((a.toNat : Int) != (b.toNat : Int)) = true := by rw [hbe]; simpa using hab
      rw [decide_eq_false hab, Bool.not_false, Bool.true_or]
      clear hp0 hbe hab
      go_enter Try.func61, Try.ntmps61
      go_wp2_with fail
      (refine (hg _).mono ?_); rintro e w1 ⟨rfl, hb0⟩
      go_wp2_with fail
      (refine (h1 _).mono ?_); rintro e w2 ⟨rfl, rfl⟩
      go_wp2_with fail
      (refine (h2 _).mono ?_); rintro e w2 ⟨rfl, rfl⟩
      go_wp2_with fail
      go_ret
      exact ⟨rfl, hb0⟩
  · rw [if_neg hT63] at hU
    subst hU
    have e0 : ((str U).toList == [63]) = false := by rw [hqT]; simpa using hT63
    generalize str S = s at *
    generalize str U = t at *
    clear hp hg hqS hqT h63 hUok hU64 hS hT hS64 hT64 hT63
    by_cases hab : a = b
    · have e2 : ((a.toNat : Int) != (b.toNat : Int)) = false := by rw [hbe]; simpa using hab
      rw [decide_eq_true hab, Bool.not_true, Bool.false_or]
      have hp1 := hp0 hab
      clear hp0 hbe hab
      go_enter Try.func61, Try.ntmps61
      go_wp2_with fail
      (refine (h1 _).mono ?_); rintro e w2 ⟨rfl, rfl⟩
      go_wp2_with fail
      (refine (h2 _).mono ?_); rintro e w2 ⟨rfl, rfl⟩
      go_wp2_with fail
      (refine (hp1 _).mono ?_); rintro e w2 ⟨rfl, hb1⟩
      go_wp2_with fail
      go_ret
      exact ⟨rfl, hb1⟩
    · have e2 : ((a.toNat : Int) != (b.toNat : Int)) = true := by rw [hbe]; simpa using hab
      rw [decide_eq_false hab, Bool.not_false, Bool.true_or]
      clear hp0 hbe hab
      go_enter Try.func61, Try.ntmps61
      go_wp2_with fail
      (refine (h1 _).mono ?_); rintro e w2 ⟨rfl, rfl⟩
      go_wp2_with fail
      (refine (h2 _).mono ?_); rintro e w2 ⟨rfl, rfl⟩
      go_wp2_with fail
      go_ret
      exact ⟨rfl, Below.refl _ _⟩

theorem head_un {a : UInt8} {t : Ty} (h : (Ty.un a t).ok) : a = 108 ∨ a = 120 := by
  have h0 : ar (a.toNat : Int) = 1 := h.1
  unfold ar at h0
  split at h0
  · omega
  split at h0
  · rename_i h1
    have e : ∀ k : Nat, k < 256 → (a.toNat : Int) = (k : Int) → a = UInt8.ofNat k := fun k hk e => by
      have : a.toNat = k := by omega
      rw [← this]; simp
    rcases h1 with h1 | h1
    · exact .inl (e 108 (by omega) h1)
    · exact .inr (e 120 (by omega) h1)
  split at h0 <;> omega
theorem head_bin {a : UInt8} {t u : Ty} (h : (Ty.bin a t u).ok) : a = 62 ∨ a = 44 := by
  have h0 : ar (a.toNat : Int) = 2 := h.1
  unfold ar at h0
  split at h0
  · omega
  split at h0
  · omega
  split at h0
  · rename_i h1
    have e : ∀ k : Nat, k < 256 → (a.toNat : Int) = (k : Int) → a = UInt8.ofNat k := fun k hk e => by
      have : a.toNat = k := by omega
      rw [← this]; simp
    rcases h1 with h1 | h1
    · exact .inl (e 62 (by omega) h1)
    · exact .inr (e 44 (by omega) h1)
  · omega

/-- safe.parts, asked with (plus, minus). -/
theorem parts_p {f g : Ty → Ty → Bool} {S T : Ty} (hS : S.ok) (hT : T.ok) (hS64 : S.code.length ≤ 64) (hT64 : T.code.length ≤ 64) (hh : S.head = T.head)
    (hf : ∀ a ∈ S.kids, ∀ b ∈ T.kids, AskQ 60 (str a) (str b) (f a b)) (hg : ∀ a ∈ S.kids, ∀ b ∈ T.kids, AskQ 61 (str b) (str a) (g b a)) (w : World) :
    Calls Try.prog 67 #[.string (str S), .string (str T), .agg #[fv 60, fv 61]] w fun e w' => e = .returned (.bool (partsB f g S T)) ∧ Below w.heap.size w w' := by
  have hl := kids_len hS hT hh
  cases S with
  | leaf h =>
    have : partsB f g (.leaf h) T = true := by cases T <;> rfl
    rw [this]
    exact parts_leaf _ _ h T w hS hT hT64
  | un h a =>
    cases T with
    | leaf h' => simp [Ty.kids] at hl
    | bin h' c d => simp [Ty.kids] at hl
    | un h' c =>
      obtain rfl : h = h' := hh
      have h1 := hf a (by simp [Ty.kids]) c (by simp [Ty.kids])
      have h2 := hg a (by simp [Ty.kids]) c (by simp [Ty.kids])
      rcases head_un hS with rfl | rfl
      · exact parts_108p a c w _ h1 hS hT hS64 hT64
      · show Calls _ _ _ _ (fun e w' => e = .returned (.bool (f a c && g c a)) ∧ _)
        rcases hr : f a c
        · rw [hr] at h1; exact parts_120fp a c w h1 hS hT hS64 hT64
        · rw [hr] at h1; exact parts_120tp a c w h1 _ h2 hS hT hS64 hT64
  | bin h a b =>
    cases T with
    | leaf h' => simp [Ty.kids] at hl
    | un h' c => simp [Ty.kids] at hl
    | bin h' c d =>
      obtain rfl : h = h' := hh
      have h1 := hf a (by simp [Ty.kids]) c (by simp [Ty.kids])
      have h2 := hg a (by simp [Ty.kids]) c (by simp [Ty.kids])
      have h3 := hf b (by simp [Ty.kids]) d (by simp [Ty.kids])
      rcases head_bin hS with rfl | rfl
      · show Calls _ _ _ _ (fun e w' => e = .returned (.bool (g c a && f b d)) ∧ _)
        rcases hr : g c a
        · rw [hr] at h2; exact parts_62fp a b c d w h2 hS hT hS64 hT64
        · rw [hr] at h2; exact parts_62tp a b c d w h2 _ h3 hS hT hS64 hT64
      · show Calls _ _ _ _ (fun e w' => e = .returned (.bool (f a c && f b d)) ∧ _)
        rcases hr : f a c
        · rw [hr] at h1; exact parts_44fp a b c d w h1 hS hT hS64 hT64
        · rw [hr] at h1; exact parts_44tp a b c d w h1 _ h3 hS hT hS64 hT64
/-- safe.parts, asked with (minus, plus). -/
theorem parts_m {f g : Ty → Ty → Bool} {S T : Ty} (hS : S.ok) (hT : T.ok) (hS64 : S.code.length ≤ 64) (hT64 : T.code.length ≤ 64) (hh : S.head = T.head)
    (hf : ∀ a ∈ S.kids, ∀ b ∈ T.kids, AskQ 61 (str a) (str b) (f a b)) (hg : ∀ a ∈ S.kids, ∀ b ∈ T.kids, AskQ 60 (str b) (str a) (g b a)) (w : World) :
    Calls Try.prog 67 #[.string (str S), .string (str T), .agg #[fv 61, fv 60]] w fun e w' => e = .returned (.bool (partsB f g S T)) ∧ Below w.heap.size w w' := by
  have hl := kids_len hS hT hh
  cases S with
  | leaf h =>
    have : partsB f g (.leaf h) T = true := by cases T <;> rfl
    rw [this]
    exact parts_leaf _ _ h T w hS hT hT64
  | un h a =>
    cases T with
    | leaf h' => simp [Ty.kids] at hl
    | bin h' c d => simp [Ty.kids] at hl
    | un h' c =>
      obtain rfl : h = h' := hh
      have h1 := hf a (by simp [Ty.kids]) c (by simp [Ty.kids])
      have h2 := hg a (by simp [Ty.kids]) c (by simp [Ty.kids])
      rcases head_un hS with rfl | rfl
      · exact parts_108m a c w _ h1 hS hT hS64 hT64
      · show Calls _ _ _ _ (fun e w' => e = .returned (.bool (f a c && g c a)) ∧ _)
        rcases hr : f a c
        · rw [hr] at h1; exact parts_120fm a c w h1 hS hT hS64 hT64
        · rw [hr] at h1; exact parts_120tm a c w h1 _ h2 hS hT hS64 hT64
  | bin h a b =>
    cases T with
    | leaf h' => simp [Ty.kids] at hl
    | un h' c => simp [Ty.kids] at hl
    | bin h' c d =>
      obtain rfl : h = h' := hh
      have h1 := hf a (by simp [Ty.kids]) c (by simp [Ty.kids])
      have h2 := hg a (by simp [Ty.kids]) c (by simp [Ty.kids])
      have h3 := hf b (by simp [Ty.kids]) d (by simp [Ty.kids])
      rcases head_bin hS with rfl | rfl
      · show Calls _ _ _ _ (fun e w' => e = .returned (.bool (g c a && f b d)) ∧ _)
        rcases hr : g c a
        · rw [hr] at h2; exact parts_62fm a b c d w h2 hS hT hS64 hT64
        · rw [hr] at h2; exact parts_62tm a b c d w h2 _ h3 hS hT hS64 hT64
      · show Calls _ _ _ _ (fun e w' => e = .returned (.bool (f a c && f b d)) ∧ _)
        rcases hr : f a c
        · rw [hr] at h1; exact parts_44fm a b c d w h1 hS hT hS64 hT64
        · rw [hr] at h1; exact parts_44tm a b c d w h1 _ h3 hS hT hS64 hT64

theorem pm_any : ∀ (n : Nat) (S T : Ty), S.ok → T.ok → S.code.length ≤ 64 → T.code.length ≤ 64 → S.code.length + T.code.length ≤ n →
    AskQ 60 (str S) (str T) (pmN n S T).1 ∧ AskQ 61 (str S) (str T) (pmN n S T).2
  | 0, S, T, hS, hT, hS64, hT64, hn => by have := S.code_pos; omega
  | n + 1, S, T, hS, hT, hS64, hT64, hn => by
    have hU64 : (if T.head = 63 then grd S else T).code.length ≤ 64 := by split; exact Nat.le_trans (grd_len S) hS64; exact hT64
    have hUok : (if T.head = 63 then grd S else T).ok := by split; exact grd_ok hS; exact hT
    have key : ∀ U : Ty, U.ok → U.code.length ≤ 64 → ∀ a ∈ S.kids, ∀ b ∈ U.kids, a.code.length + b.code.length ≤ n →
        (AskQ 60 (str a) (str b) (pmN n a b).1 ∧ AskQ 61 (str a) (str b) (pmN n a b).2) ∧ (AskQ 60 (str b) (str a) (pmN n b a).1 ∧ AskQ 61 (str b) (str a) (pmN n b a).2) := by
      intro U hU h64 a ha b hb hl
      have ha1 := Ty.kid_code ha
      have hb1 := Ty.kid_code hb
      exact ⟨pm_any n a b (Ty.kids_ok hS ha) (Ty.kids_ok hU hb) (by omega) (by omega) hl, pm_any n b a (Ty.kids_ok hU hb) (Ty.kids_ok hS ha) (by omega) (by omega) (by omega)⟩
    constructor
    · intro w
      refine plus_w S T _ w hS hT hS64 hT64 fun hh W => parts_p (f := fun a b => (pmN n a b).1) (g := fun a b => (pmN n a b).2) hS hT hS64 hT64 hh ?_ ?_ W
      · intro a ha b hb
        have ha1 := Ty.kid_code ha
        have hb1 := Ty.kid_code hb
        exact (key T hT hT64 a ha b hb (by omega)).1.1
      · intro a ha b hb
        have ha1 := Ty.kid_code ha
        have hb1 := Ty.kid_code hb
        exact (key T hT hT64 a ha b hb (by omega)).2.2
    · intro w
      refine minus_w S T _ _ w hS hT hS64 hT64 rfl fun h63 hh W => parts_m (f := fun a b => (pmN n a b).2) (g := fun a b => (pmN n a b).1) hS hUok hS64 hU64 hh ?_ ?_ W
      · intro a ha b hb
        exact (key _ hUok hU64 a ha b hb (kid_sum hn ha hb)).1.2
      · intro a ha b hb
        exact (key _ hUok hU64 a ha b hb (kid_sum hn ha hb)).2.1

theorem goodS_any (s : ByteArray) (w : World) (hs : s.size ≤ 4611686018427387904) : Calls Try.prog 59 #[.string s] w fun e w' => e = .returned (.bool (isB s)) ∧ w = w' := by
  have hc := check_any s w hs
  unfold isB
  generalize checkL s.data.toList = R at *
  obtain ⟨a, b⟩ := R
  simp only at hc ⊢
  go_enter Try.func59, Try.ntmps59
  go_wp2_with (go_at_call 58; refine hc.mono ?_; rintro e w' ⟨rfl, rfl⟩)
  go_ret
  exact ⟨retV (congrArg Value.bool (by rw [Bool.eq_iff_iff]; simp)), rfl⟩

theorem Sides_any (S T : Ty) (w : World) (hS : S.ok) (hT : T.ok) (hS64 : S.code.length ≤ 64) (hT64 : T.code.length ≤ 64) :
    Calls Try.prog 24 #[.string (str S), .string (str T)] w fun e w' => e = .returned (.tuple #[.bool (plusT S T), .bool (minusT S T)]) ∧ Below w.heap.size w w' := by
  have h1 := fun W => goodS_any (str S) W (by simp [str]; omega)
  have h2 := fun W => goodS_any (str T) W (by simp [str]; omega)
  rw [isB_str hS hS64] at h1
  rw [isB_str hT hT64] at h2
  obtain ⟨hp, hm⟩ := pm_any _ S T hS hT hS64 hT64 (Nat.le_refl _)
  unfold AskQ at hp hm
  change ∀ w, Calls _ _ _ w fun e w' => e = .returned (.bool (plusT S T)) ∧ _ at hp
  change ∀ w, Calls _ _ _ w fun e w' => e = .returned (.bool (minusT S T)) ∧ _ at hm
  generalize plusT S T = p at *
  generalize minusT S T = m at *
  generalize str S = s at *
  generalize str T = t at *
  clear hS hT hS64 hT64
  have hP : ∀ W, Calls Try.prog 37 #[.string s, .string t] W fun e w' => e = .returned (.bool p) ∧ Below W.heap.size W w' := by
    intro W
    clear hm
    go_enter Try.func37, Try.ntmps37
    go_wp2_with fail
    (refine (h1 _).mono ?_); rintro e w1 ⟨rfl, rfl⟩
    go_wp2_with fail
    (refine (h2 _).mono ?_); rintro e w1 ⟨rfl, rfl⟩
    go_wp2_with fail
    (refine (hp _).mono ?_); rintro e w1 ⟨rfl, hb⟩
    go_wp2_with fail
    go_ret
    exact ⟨rfl, hb⟩
  have hM : ∀ W, Calls Try.prog 38 #[.string s, .string t] W fun e w' => e = .returned (.bool m) ∧ Below W.heap.size W w' := by
    intro W
    clear hp hP
    go_enter Try.func38, Try.ntmps38
    go_wp2_with fail
    (refine (h1 _).mono ?_); rintro e w1 ⟨rfl, rfl⟩
    go_wp2_with fail
    (refine (h2 _).mono ?_); rintro e w1 ⟨rfl, rfl⟩
    go_wp2_with fail
    (refine (hm _).mono ?_); rintro e w1 ⟨rfl, hb⟩
    go_wp2_with fail
    go_ret
    exact ⟨rfl, hb⟩
  clear h1 h2 hp hm
  go_enter Try.func24, Try.ntmps24
  go_wp2_with fail
  (refine (hP _).mono ?_); rintro e w1 ⟨rfl, hb1⟩
  go_wp2_with fail
  (refine (hM _).mono ?_); rintro e w2 ⟨rfl, hb2⟩
  go_wp2_with fail
  go_ret2
  exact ⟨rfl, bl hb1 hb2⟩
end Go.Proofs.Ytjklecncdinabaa.J

/- CkG -/
namespace Go.Proofs.Ytjklecncdinabaa.K
open Go.RowKit Go.Proofs.Ytjklecncdinabaa.B Go.Proofs.Ytjklecncdinabaa.T
set_option linter.unusedVariables false
set_option linter.unusedSimpArgs false

/-! ### all -/
theorem all_mk (s t : ByteArray) (w : World) : Calls Try.prog 39 #[.string s, .string t] w fun e w' => e = .returned (.func (.func 62) #[] #[.pointer (some ⟨w.heap.size, 0, none⟩), .pointer (some ⟨w.heap.size + 1, 0, none⟩)]) ∧ Below w.heap.size w w' ∧
    w'.heap.size = w.heap.size + 2 ∧ w'.cell? ⟨w.heap.size, 0, none⟩ = some (.string s) ∧ w'.cell? ⟨w.heap.size + 1, 0, none⟩ = some (.string t) := by
  have hmf : ∀ (fn : Fn) (first cap : Array Value) (w : World), (Instr.makeFunc fn first cap).run Try.prog w = .ok (.func fn first cap) w := fun _ _ _ _ => rfl
  have h1 := (Blk.new w 9 #[.string s]).alloc (.cells #[.string t] 9)
  have h2 := Blk.new (w.alloc (.cells #[.string s] 9)) 9 #[.string t]
  rw [World.size_alloc] at h2
  have H := Lib.hid (And.intro ((h1.cell 0).trans rfl : _ = some (Value.string s)) ((h2.cell 0).trans rfl : _ = some (Value.string t)))
  clear h1 h2
  go_enter Try.func39, Try.ntmps39
  go_wp2_with fail
  go_ret
  exact ⟨rfl, bal (bal b0 _) _, by simp only [World.size_alloc], H.out.1, H.out.2⟩

set_option maxRecDepth 100000 in
set_option maxHeartbeats 2000000 in
/-- The closure that all makes: each kid's type is that; the answer is the other one. -/
theorem all1_any (cp : Value) (n : Tn) (ts : List Ty) (g c : Nat) (A : Option Addr) (a p q : Nat) (x y : Ty) (w : World) (hts : ∀ t ∈ ts, okT t) (hx : okT x)
    (hA : ts = [] ∨ (A = some ⟨g, 0, none⟩ ∧ g < w.heap.size ∧ ∀ j t, ts[j]? = some t → w.cell? ⟨g, j, none⟩ = some (.string (str t)))) (hlc : ts.length ≤ c) (hl : ts.length ≤ 1000000)
    (hp : w.cell? ⟨p, 0, none⟩ = some (.string (str x))) (hq : w.cell? ⟨q, 0, none⟩ = some (.string (str y))) (hpl : p < w.heap.size) (hql : q < w.heap.size) :
    Calls Try.prog 62 #[cp, n.val, .slice A ts.length c, .int .i64 (a : Nat), .pointer (some ⟨p, 0, none⟩), .pointer (some ⟨q, 0, none⟩)] w fun e w' => RuleQ (want (∀ t ∈ ts, t = x) a (.ok y)) w e w' := by
  obtain ⟨kd, kids, nn, s, t, u, ln, cl⟩ := n
  unfold Tn.val
  obtain ⟨R, hR⟩ : ∃ R, want (∀ t ∈ ts, t = x) a (.ok y) = R := ⟨_, rfl⟩
  rw [hR]
  obtain ⟨K, hK⟩ : ∃ K, ts.length = K := ⟨_, rfl⟩
  rw [hK] at hlc hl ⊢
  simp only
  have HR := Lib.hid hR
  have HA := Lib.hid hA
  have HTS := Lib.hid (And.intro hts (And.intro hx hK))
  clear hR hA hts hx hK
  go_enter Try.func62, Try.ntmps62
  go_wp2_with fail
  obtain ⟨W, hW⟩ : ∃ W, w.alloc (.cells #[.int .i8 kd, .int .i64 kids, .int .i64 nn, .string s, .string t, .string u, .int .i64 ln, .int .i64 cl] 50) = W := ⟨_, rfl⟩
  rw [hW]
  have hbw : Below w.heap.size w W := by rw [← hW]; exact bal b0 _
  have p0 := (hbw.cell (p := ⟨p, 0, none⟩) hpl).trans hp
  have q0 := (hbw.cell (p := ⟨q, 0, none⟩) hql).trans hq
  have HB := Lib.hid hbw
  clear hW hbw hp hq
  go_loopg [15] K (fun gg i wr => ∃ m : Nat, m ≤ K ∧ gg = K - m ∧ i = .int .i64 m ∧ wr = W ∧ ∀ j t, j < m → ts[j]? = some t → t = x)
  case atStart => exact ⟨0, by omega, rfl, rfl, rfl, fun j t hj => absurd hj (by omega)⟩
  case round =>
    obtain ⟨m, hm, rfl, rfl, rfl, hall⟩ := hrel
    have HALL := Lib.hid hall
    clear hall
    by_cases hlt : m < K
    · obtain ⟨t0, ht0⟩ : ∃ t, ts[m]? = some t := ⟨_, List.getElem?_eq_getElem (by rw [HTS.out.2.2]; exact hlt)⟩
      obtain ⟨rfl, hg, hcell⟩ := HA.out.resolve_left (fun e => by rw [e] at ht0; simp at ht0)
      have hc0 := (HB.out.cell (p := ⟨g, m, none⟩) hg).trans (hcell m t0 ht0)
      have heq : ((str t0).toList == (str x).toList) = true ↔ t0 = x := strEq (HTS.out.1 t0 (List.mem_of_getElem? ht0)).1 HTS.out.2.1.1
      obtain ⟨b, hb⟩ : ∃ b, ((str t0).toList == (str x).toList) = b := ⟨_, rfl⟩
      rw [hb] at heq
      have HEQ := Lib.hid heq
      have HT0 := Lib.hid ht0
      clear heq ht0 hcell
      go_wp2_with fail
      cases b
      · have hRn := HR.out
        rw [want_neg (fun h => absurd (HEQ.out.2 (h t0 (List.mem_of_getElem? HT0.out))) (by simp))] at hRn
        subst hRn
        (refine (need_no 23 a _).mono ?_); rintro e w4 ⟨rfl, rfl⟩
        unfold Flaw
        go_wp2_with fail
        exact bodyPost_panic rfl (RuleQ.bad HB.out)
      · (refine (need_yes 23 a _).mono ?_); rintro e w4 ⟨rfl, rfl⟩
        go_wp2_with fail
        go_roundg (K - (m + 1))
        case measure => omega
        case rel => exact ⟨m + 1, by omega, rfl, by go_num, rfl, fun j t hj htj => by
          rcases Nat.lt_or_ge j m with h | h
          · exact HALL.out j t h htj
          · obtain rfl : j = m := by omega
            rw [HT0.out] at htj
            injection htj with htj
            rw [← htj]; exact HEQ.out.1 (by first | rfl | trivial)⟩
    · obtain rfl : m = K := by omega
      have hRp := HR.out
      rw [want_pos (fun t ht => by
        obtain ⟨j, hj⟩ := List.mem_iff_getElem?.1 ht
        exact HALL.out j t (by have := (List.getElem?_eq_some_iff.1 hj).1; rw [HTS.out.2.2] at this; exact this) hj)] at hRp
      subst hRp
      go_wp2_with fail
      go_ret
      exact RuleQ.ok HB.out rfl

set_option maxRecDepth 100000 in
set_option maxHeartbeats 4000000 in
theorem list_x (cp : Value) (kd kids nn : Int) (s t u : ByteArray) (ln cl : Int) (ts : List Ty) (g c K : Nat) (A : Option Addr) (a : Nat) (T : Ty) (R : Rs Ty) (w : World) (hts : ∀ t ∈ ts, okT t) (hT : okT T) (ht : t = str T) (hK : ts.length = K)
    (hA : ts = [] ∨ (A = some ⟨g, 0, none⟩ ∧ g < w.heap.size ∧ ∀ j t, ts[j]? = some t → w.cell? ⟨g, j, none⟩ = some (.string (str t)))) (hlc : K ≤ c) (hl : K ≤ 1000000) (hR : R = want (∀ t ∈ ts, t = T) a (made (.un 108 T) a)) :
    Calls Try.prog 46 #[cp, .agg #[.int .i8 kd, .int .i64 kids, .int .i64 nn, .string s, .string t, .string u, .int .i64 ln, .int .i64 cl], .slice A K c, .int .i64 (a : Nat)] w fun e w' => RuleQ R w e w' := by
  have hs : ∀ V, _ := fun V => run_string_add_sum (P := Try.prog) V ⟨#[108]⟩ (str T) (by rw [str_size]; show 1 + _ ≤ _; have := hT.2; omega)
  have hsz : ((⟨#[108]⟩ : ByteArray) ++ str T).size = (Ty.un 108 T).code.length := by rw [str_un, str_size]
  have hst : (⟨#[108]⟩ : ByteArray) ++ str T = str (.un 108 T) := str_un _ _
  obtain ⟨xs, hxs⟩ : ∃ q, (⟨#[108]⟩ : ByteArray) ++ str T = q := ⟨_, rfl⟩
  rw [hxs] at hs hsz hst
  rw [← ht] at hs
  have HTS := Lib.hid (And.intro hts (And.intro hT (And.intro hK ht)))
  have HA := Lib.hid hA
  have HST := Lib.hid hst
  clear hts hT hK hA ht hst hxs
  by_cases hall : ∀ t ∈ ts, t = T
  · rw [want_pos hall] at hR
    have HALL := Lib.hid hall
    clear hall
    by_cases h64 : (Ty.un 108 T).code.length ≤ 64
    · rw [made_pos h64] at hR
      subst hR
      have HM := Lib.hid fun W => made_yes cp xs a W (by omega)
      go_enter Try.func46, Try.ntmps46
      go_upto_region 1 with fail
      obtain ⟨W, hW⟩ : ∃ W, w.alloc (.cells #[.int .i8 kd, .int .i64 kids, .int .i64 nn, .string s, .string t, .string u, .int .i64 ln, .int .i64 cl] 50) = W := ⟨_, rfl⟩
      rw [hW]
      have hbk : Blk W w.heap.size 50 #[.int .i8 kd, .int .i64 kids, .int .i64 nn, .string s, .string t, .string u, .int .i64 ln, .int .i64 cl] := by rw [← hW]; exact Blk.new _ _ _
      have hbw : Below w.heap.size w W := by rw [← hW]; exact bal b0 _
      have HK := Lib.hid (show ∀ W', Below W.heap.size W W' → (Below W.heap.size W W' ∧ W'.cell? ⟨w.heap.size, 0, none⟩ = some (.int .i8 kd) ∧ W'.cell? ⟨w.heap.size, 1, none⟩ = some (.int .i64 kids) ∧ W'.cell? ⟨w.heap.size, 2, none⟩ = some (.int .i64 nn) ∧ W'.cell? ⟨w.heap.size, 3, none⟩ = some (.string s) ∧ W'.cell? ⟨w.heap.size, 4, none⟩ = some (.string t) ∧ W'.cell? ⟨w.heap.size, 5, none⟩ = some (.string u) ∧ W'.cell? ⟨w.heap.size, 6, none⟩ = some (.int .i64 ln) ∧ W'.cell? ⟨w.heap.size, 7, none⟩ = some (.int .i64 cl)) from fun W' hb' => ⟨hb', ((hbk.below hb' hbk.lt).cell 0).trans rfl, ((hbk.below hb' hbk.lt).cell 1).trans rfl, ((hbk.below hb' hbk.lt).cell 2).trans rfl, ((hbk.below hb' hbk.lt).cell 3).trans rfl, ((hbk.below hb' hbk.lt).cell 4).trans rfl, ((hbk.below hb' hbk.lt).cell 5).trans rfl, ((hbk.below hb' hbk.lt).cell 6).trans rfl, ((hbk.below hb' hbk.lt).cell 7).trans rfl⟩)
      have HB := Lib.hid hbw
      have hcl : ∀ (w5 : World), Below W.drew.heap.size W.drew w5 → w5.heap.size = W.drew.heap.size + 2 → w5.cell? ⟨W.drew.heap.size, 0, none⟩ = some (.string t) → w5.cell? ⟨W.drew.heap.size + 1, 0, none⟩ = some (.string t) →
          Calls Try.prog 62 #[cp, .agg #[.int .i8 kd, .int .i64 kids, .int .i64 nn, .string s, .string t, .string u, .int .i64 ln, .int .i64 cl], .slice A K c, .int .i64 (a : Nat), .pointer (some ⟨W.heap.size, 0, none⟩), .pointer (some ⟨W.heap.size + 1, 0, none⟩)] w5 fun e w' => RuleQ (want (∀ t ∈ ts, t = T) a (.ok T)) w5 e w' := fun w5 hb5 hs5 hp5 hq5 => by
        have hb6 : Below w.heap.size w w5 := bl (show Below w.heap.size w W.drew from hbw.drew) hb5
        have := all1_any cp ⟨kd, kids, nn, s, t, u, ln, cl⟩ ts g c A a W.heap.size (W.heap.size + 1) T T w5 HTS.out.1 HTS.out.2.1 (HA.out.imp_right fun ⟨h1, h2, h3⟩ => ⟨h1, Nat.lt_of_lt_of_le h2 hb6.size, fun j t hj => (hb6.cell (p := ⟨g, j, none⟩) h2).trans (h3 j t hj)⟩) (by rw [HTS.out.2.2.1]; exact hlc) (by rw [HTS.out.2.2.1]; exact hl) (by rw [← HTS.out.2.2.2]; exact hp5) (by rw [← HTS.out.2.2.2]; exact hq5) (by have : W.drew.heap.size = W.heap.size := rfl; omega) (by have : W.drew.heap.size = W.heap.size := rfl; omega)
        rwa [HTS.out.2.2.1] at this
      have HCL := Lib.hid hcl
      clear hbk hbw hW hcl
      refine wp_region_held_drew (S := (fun W' => Below W.heap.size W W' ∧ W'.cell? ⟨w.heap.size, 0, none⟩ = some (.int .i8 kd) ∧ W'.cell? ⟨w.heap.size, 1, none⟩ = some (.int .i64 kids) ∧ W'.cell? ⟨w.heap.size, 2, none⟩ = some (.int .i64 nn) ∧ W'.cell? ⟨w.heap.size, 3, none⟩ = some (.string s) ∧ W'.cell? ⟨w.heap.size, 4, none⟩ = some (.string t) ∧ W'.cell? ⟨w.heap.size, 5, none⟩ = some (.string u) ∧ W'.cell? ⟨w.heap.size, 6, none⟩ = some (.int .i64 ln) ∧ W'.cell? ⟨w.heap.size, 7, none⟩ = some (.int .i64 cl))) (by kernel_rfl) ?ss1 (fun hHeld => ?rr1)
      case ss1 => (try dsimp only); exact HK.out _ (Below.refl _ _).drew
      refine rgt 0 9 rfl rfl hHeld ?_
      try simp only [Act.put, rg1, rg2, rg3]
      refine rgt 1 10 rfl rfl hHeld ?_
      try simp only [Act.put, rg1, rg2, rg3]
      refine rgt 2 11 rfl rfl hHeld ?_
      try simp only [Act.put, rg1, rg2, rg3]
      refine rgt 3 12 rfl rfl hHeld ?_
      try simp only [Act.put, rg1, rg2, rg3]
      refine rgt 4 13 rfl rfl hHeld ?_
      try simp only [Act.put, rg1, rg2, rg3]
      refine rgt 6 15 rfl rfl hHeld ?_
      try simp only [Act.put, rg1, rg2, rg3]
      refine rgt 7 16 rfl rfl hHeld ?_
      try simp only [Act.put, rg1, rg2, rg3]
      refine rgt 8 17 rfl rfl hHeld ?_
      try simp only [Act.put, rg1, rg2, rg3]
      refine rgt 9 18 rfl rfl hHeld ?_
      try simp only [Act.put, rg1, rg2, rg3]
      refine rgt 12 21 rfl rfl hHeld ?_
      try simp only [Act.put, rg1, rg2, rg3]
      refine rgc 5 (some 14) rfl (fun K hK => ?_)
      go_simp
      ((refine (all_mk _ _ _).mono ?_); rintro e w5 ⟨rfl, hb5, hs5, hp5, hq5⟩; have hcl := HCL.out w5 hb5 hs5 hp5 hq5; clear hp5 hq5)
      refine hK.out _ _ ?ss12 (fun hHeld2 => ?rr12)
      case ss12 => (try dsimp only); exact HK.out _ (bl (Below.refl _ _).drew hb5)
      clear hK K
      clear hHeld
      have hHeld := hHeld2
      clear hHeld2
      try simp only [Act.put, rg1, rg2, rg3]
      refine rgc 10 (some 19) rfl (fun K hK => ?_)
      go_simp
      ((refine hcl.mono ?_); rintro e w6 ⟨hb6, hq6⟩; rw [want_pos HALL.out] at hq6; simp only at hq6; subst hq6; clear hcl; rw [← HTS.out.2.2.2])
      refine hK.out _ _ ?ss13 (fun hHeld2 => ?rr13)
      case ss13 => (try dsimp only); exact HK.out _ (bl (bl (Below.refl _ _).drew hb5) hb6)
      clear hK K
      clear hHeld
      have hHeld := hHeld2
      clear hHeld2
      try simp only [Act.put, rg1, rg2, rg3]
      refine rgt 11 20 rfl rfl hHeld ?_
      try simp only [Act.put, rg1, rg2, rg3]
      refine rgc 13 (some 22) rfl (fun K hK => ?_)
      go_simp
      ((refine (HM.out _).mono ?_); rintro e w7 ⟨rfl, rfl⟩)
      refine hK.out _ _ ?ss15 (fun hHeld2 => ?rr15)
      case ss15 => (try dsimp only); exact hHeld
      clear hK K
      clear hHeld2
      try simp only [Act.put, rg1, rg2, rg3]
      refine rgt 14 8 rfl rfl hHeld ?_
      try simp only [Act.put, rg1, rg2, rg3]
      refine wpAnyH_done (by kernel_rfl) ?_ _
      have HB2 := Lib.hid (bl HB.out hHeld.1)
      clear hHeld
      go_wp2_with fail
      go_ret
      exact RuleQ.ok HB2.out HST.out
    · rw [made_neg h64] at hR
      subst hR
      have HM := Lib.hid fun W => made_no cp xs a W (by omega)
      go_enter Try.func46, Try.ntmps46
      go_upto_region 1 with fail
      obtain ⟨W, hW⟩ : ∃ W, w.alloc (.cells #[.int .i8 kd, .int .i64 kids, .int .i64 nn, .string s, .string t, .string u, .int .i64 ln, .int .i64 cl] 50) = W := ⟨_, rfl⟩
      rw [hW]
      have hbk : Blk W w.heap.size 50 #[.int .i8 kd, .int .i64 kids, .int .i64 nn, .string s, .string t, .string u, .int .i64 ln, .int .i64 cl] := by rw [← hW]; exact Blk.new _ _ _
      have hbw : Below w.heap.size w W := by rw [← hW]; exact bal b0 _
      have HK := Lib.hid (show ∀ W', Below W.heap.size W W' → (Below W.heap.size W W' ∧ W'.cell? ⟨w.heap.size, 0, none⟩ = some (.int .i8 kd) ∧ W'.cell? ⟨w.heap.size, 1, none⟩ = some (.int .i64 kids) ∧ W'.cell? ⟨w.heap.size, 2, none⟩ = some (.int .i64 nn) ∧ W'.cell? ⟨w.heap.size, 3, none⟩ = some (.string s) ∧ W'.cell? ⟨w.heap.size, 4, none⟩ = some (.string t) ∧ W'.cell? ⟨w.heap.size, 5, none⟩ = some (.string u) ∧ W'.cell? ⟨w.heap.size, 6, none⟩ = some (.int .i64 ln) ∧ W'.cell? ⟨w.heap.size, 7, none⟩ = some (.int .i64 cl)) from fun W' hb' => ⟨hb', ((hbk.below hb' hbk.lt).cell 0).trans rfl, ((hbk.below hb' hbk.lt).cell 1).trans rfl, ((hbk.below hb' hbk.lt).cell 2).trans rfl, ((hbk.below hb' hbk.lt).cell 3).trans rfl, ((hbk.below hb' hbk.lt).cell 4).trans rfl, ((hbk.below hb' hbk.lt).cell 5).trans rfl, ((hbk.below hb' hbk.lt).cell 6).trans rfl, ((hbk.below hb' hbk.lt).cell 7).trans rfl⟩)
      have HB := Lib.hid hbw
      have hcl : ∀ (w5 : World), Below W.drew.heap.size W.drew w5 → w5.heap.size = W.drew.heap.size + 2 → w5.cell? ⟨W.drew.heap.size, 0, none⟩ = some (.string t) → w5.cell? ⟨W.drew.heap.size + 1, 0, none⟩ = some (.string t) →
          Calls Try.prog 62 #[cp, .agg #[.int .i8 kd, .int .i64 kids, .int .i64 nn, .string s, .string t, .string u, .int .i64 ln, .int .i64 cl], .slice A K c, .int .i64 (a : Nat), .pointer (some ⟨W.heap.size, 0, none⟩), .pointer (some ⟨W.heap.size + 1, 0, none⟩)] w5 fun e w' => RuleQ (want (∀ t ∈ ts, t = T) a (.ok T)) w5 e w' := fun w5 hb5 hs5 hp5 hq5 => by
        have hb6 : Below w.heap.size w w5 := bl (show Below w.heap.size w W.drew from hbw.drew) hb5
        have := all1_any cp ⟨kd, kids, nn, s, t, u, ln, cl⟩ ts g c A a W.heap.size (W.heap.size + 1) T T w5 HTS.out.1 HTS.out.2.1 (HA.out.imp_right fun ⟨h1, h2, h3⟩ => ⟨h1, Nat.lt_of_lt_of_le h2 hb6.size, fun j t hj => (hb6.cell (p := ⟨g, j, none⟩) h2).trans (h3 j t hj)⟩) (by rw [HTS.out.2.2.1]; exact hlc) (by rw [HTS.out.2.2.1]; exact hl) (by rw [← HTS.out.2.2.2]; exact hp5) (by rw [← HTS.out.2.2.2]; exact hq5) (by have : W.drew.heap.size = W.heap.size := rfl; omega) (by have : W.drew.heap.size = W.heap.size := rfl; omega)
        rwa [HTS.out.2.2.1] at this
      have HCL := Lib.hid hcl
      clear hbk hbw hW hcl
      refine wp_region_held_drew (S := (fun W' => Below W.heap.size W W' ∧ W'.cell? ⟨w.heap.size, 0, none⟩ = some (.int .i8 kd) ∧ W'.cell? ⟨w.heap.size, 1, none⟩ = some (.int .i64 kids) ∧ W'.cell? ⟨w.heap.size, 2, none⟩ = some (.int .i64 nn) ∧ W'.cell? ⟨w.heap.size, 3, none⟩ = some (.string s) ∧ W'.cell? ⟨w.heap.size, 4, none⟩ = some (.string t) ∧ W'.cell? ⟨w.heap.size, 5, none⟩ = some (.string u) ∧ W'.cell? ⟨w.heap.size, 6, none⟩ = some (.int .i64 ln) ∧ W'.cell? ⟨w.heap.size, 7, none⟩ = some (.int .i64 cl))) (by kernel_rfl) ?ss17 (fun hHeld => ?rr17)
      case ss17 => (try dsimp only); exact HK.out _ (Below.refl _ _).drew
      refine rgt 0 9 rfl rfl hHeld ?_
      try simp only [Act.put, rg1, rg2, rg3]
      refine rgt 1 10 rfl rfl hHeld ?_
      try simp only [Act.put, rg1, rg2, rg3]
      refine rgt 2 11 rfl rfl hHeld ?_
      try simp only [Act.put, rg1, rg2, rg3]
      refine rgt 3 12 rfl rfl hHeld ?_
      try simp only [Act.put, rg1, rg2, rg3]
      refine rgt 4 13 rfl rfl hHeld ?_
      try simp only [Act.put, rg1, rg2, rg3]
      refine rgt 6 15 rfl rfl hHeld ?_
      try simp only [Act.put, rg1, rg2, rg3]
      refine rgt 7 16 rfl rfl hHeld ?_
      try simp only [Act.put, rg1, rg2, rg3]
      refine rgt 8 17 rfl rfl hHeld ?_
      try simp only [Act.put, rg1, rg2, rg3]
      refine rgt 9 18 rfl rfl hHeld ?_
      try simp only [Act.put, rg1, rg2, rg3]
      refine rgt 12 21 rfl rfl hHeld ?_
      try simp only [Act.put, rg1, rg2, rg3]
      refine rgc 5 (some 14) rfl (fun K hK => ?_)
      go_simp
      ((refine (all_mk _ _ _).mono ?_); rintro e w5 ⟨rfl, hb5, hs5, hp5, hq5⟩; have hcl := HCL.out w5 hb5 hs5 hp5 hq5; clear hp5 hq5)
      refine hK.out _ _ ?ss28 (fun hHeld2 => ?rr28)
      case ss28 => (try dsimp only); exact HK.out _ (bl (Below.refl _ _).drew hb5)
      clear hK K
      clear hHeld
      have hHeld := hHeld2
      clear hHeld2
      try simp only [Act.put, rg1, rg2, rg3]
      refine rgc 10 (some 19) rfl (fun K hK => ?_)
      go_simp
      ((refine hcl.mono ?_); rintro e w6 ⟨hb6, hq6⟩; rw [want_pos HALL.out] at hq6; simp only at hq6; subst hq6; clear hcl; rw [← HTS.out.2.2.2])
      refine hK.out _ _ ?ss29 (fun hHeld2 => ?rr29)
      case ss29 => (try dsimp only); exact HK.out _ (bl (bl (Below.refl _ _).drew hb5) hb6)
      clear hK K
      clear hHeld
      have hHeld := hHeld2
      clear hHeld2
      try simp only [Act.put, rg1, rg2, rg3]
      refine rgt 11 20 rfl rfl hHeld ?_
      try simp only [Act.put, rg1, rg2, rg3]
      refine rgc 13 (some 22) rfl (fun K hK => ?_)
      go_simp
      (refine (HM.out _).mono ?_)
      (rintro e w7 ⟨rfl, rfl⟩)
      unfold Flaw
      go_wp2_with fail
      exact bodyPost_panic rfl (RuleQ.bad (bl HB.out hHeld.1))
  · rw [want_neg hall] at hR
    subst hR
    have HALL := Lib.hid hall
    clear hall
    go_enter Try.func46, Try.ntmps46
    go_upto_region 1 with fail
    obtain ⟨W, hW⟩ : ∃ W, w.alloc (.cells #[.int .i8 kd, .int .i64 kids, .int .i64 nn, .string s, .string t, .string u, .int .i64 ln, .int .i64 cl] 50) = W := ⟨_, rfl⟩
    rw [hW]
    have hbk : Blk W w.heap.size 50 #[.int .i8 kd, .int .i64 kids, .int .i64 nn, .string s, .string t, .string u, .int .i64 ln, .int .i64 cl] := by rw [← hW]; exact Blk.new _ _ _
    have hbw : Below w.heap.size w W := by rw [← hW]; exact bal b0 _
    have HK := Lib.hid (show ∀ W', Below W.heap.size W W' → (Below W.heap.size W W' ∧ W'.cell? ⟨w.heap.size, 0, none⟩ = some (.int .i8 kd) ∧ W'.cell? ⟨w.heap.size, 1, none⟩ = some (.int .i64 kids) ∧ W'.cell? ⟨w.heap.size, 2, none⟩ = some (.int .i64 nn) ∧ W'.cell? ⟨w.heap.size, 3, none⟩ = some (.string s) ∧ W'.cell? ⟨w.heap.size, 4, none⟩ = some (.string t) ∧ W'.cell? ⟨w.heap.size, 5, none⟩ = some (.string u) ∧ W'.cell? ⟨w.heap.size, 6, none⟩ = some (.int .i64 ln) ∧ W'.cell? ⟨w.heap.size, 7, none⟩ = some (.int .i64 cl)) from fun W' hb' => ⟨hb', ((hbk.below hb' hbk.lt).cell 0).trans rfl, ((hbk.below hb' hbk.lt).cell 1).trans rfl, ((hbk.below hb' hbk.lt).cell 2).trans rfl, ((hbk.below hb' hbk.lt).cell 3).trans rfl, ((hbk.below hb' hbk.lt).cell 4).trans rfl, ((hbk.below hb' hbk.lt).cell 5).trans rfl, ((hbk.below hb' hbk.lt).cell 6).trans rfl, ((hbk.below hb' hbk.lt).cell 7).trans rfl⟩)
    have HB := Lib.hid hbw
    have hcl : ∀ (w5 : World), Below W.drew.heap.size W.drew w5 → w5.heap.size = W.drew.heap.size + 2 → w5.cell? ⟨W.drew.heap.size, 0, none⟩ = some (.string t) → w5.cell? ⟨W.drew.heap.size + 1, 0, none⟩ = some (.string t) →
        Calls Try.prog 62 #[cp, .agg #[.int .i8 kd, .int .i64 kids, .int .i64 nn, .string s, .string t, .string u, .int .i64 ln, .int .i64 cl], .slice A K c, .int .i64 (a : Nat), .pointer (some ⟨W.heap.size, 0, none⟩), .pointer (some ⟨W.heap.size + 1, 0, none⟩)] w5 fun e w' => RuleQ (want (∀ t ∈ ts, t = T) a (.ok T)) w5 e w' := fun w5 hb5 hs5 hp5 hq5 => by
      have hb6 : Below w.heap.size w w5 := bl (show Below w.heap.size w W.drew from hbw.drew) hb5
      have := all1_any cp ⟨kd, kids, nn, s, t, u, ln, cl⟩ ts g c A a W.heap.size (W.heap.size + 1) T T w5 HTS.out.1 HTS.out.2.1 (HA.out.imp_right fun ⟨h1, h2, h3⟩ => ⟨h1, Nat.lt_of_lt_of_le h2 hb6.size, fun j t hj => (hb6.cell (p := ⟨g, j, none⟩) h2).trans (h3 j t hj)⟩) (by rw [HTS.out.2.2.1]; exact hlc) (by rw [HTS.out.2.2.1]; exact hl) (by rw [← HTS.out.2.2.2]; exact hp5) (by rw [← HTS.out.2.2.2]; exact hq5) (by have : W.drew.heap.size = W.heap.size := rfl; omega) (by have : W.drew.heap.size = W.heap.size := rfl; omega)
      rwa [HTS.out.2.2.1] at this
    have HCL := Lib.hid hcl
    clear hbk hbw hW hcl
    refine wp_region_held_drew (S := (fun W' => Below W.heap.size W W' ∧ W'.cell? ⟨w.heap.size, 0, none⟩ = some (.int .i8 kd) ∧ W'.cell? ⟨w.heap.size, 1, none⟩ = some (.int .i64 kids) ∧ W'.cell? ⟨w.heap.size, 2, none⟩ = some (.int .i64 nn) ∧ W'.cell? ⟨w.heap.size, 3, none⟩ = some (.string s) ∧ W'.cell? ⟨w.heap.size, 4, none⟩ = some (.string t) ∧ W'.cell? ⟨w.heap.size, 5, none⟩ = some (.string u) ∧ W'.cell? ⟨w.heap.size, 6, none⟩ = some (.int .i64 ln) ∧ W'.cell? ⟨w.heap.size, 7, none⟩ = some (.int .i64 cl))) (by kernel_rfl) ?ss32 (fun hHeld => ?rr32)
    case ss32 => (try dsimp only); exact HK.out _ (Below.refl _ _).drew
    refine rgt 0 9 rfl rfl hHeld ?_
    try simp only [Act.put, rg1, rg2, rg3]
    refine rgt 1 10 rfl rfl hHeld ?_
    try simp only [Act.put, rg1, rg2, rg3]
    refine rgt 2 11 rfl rfl hHeld ?_
    try simp only [Act.put, rg1, rg2, rg3]
    refine rgt 3 12 rfl rfl hHeld ?_
    try simp only [Act.put, rg1, rg2, rg3]
    refine rgt 4 13 rfl rfl hHeld ?_
    try simp only [Act.put, rg1, rg2, rg3]
    refine rgt 6 15 rfl rfl hHeld ?_
    try simp only [Act.put, rg1, rg2, rg3]
    refine rgt 7 16 rfl rfl hHeld ?_
    try simp only [Act.put, rg1, rg2, rg3]
    refine rgt 8 17 rfl rfl hHeld ?_
    try simp only [Act.put, rg1, rg2, rg3]
    refine rgt 9 18 rfl rfl hHeld ?_
    try simp only [Act.put, rg1, rg2, rg3]
    refine rgt 12 21 rfl rfl hHeld ?_
    try simp only [Act.put, rg1, rg2, rg3]
    refine rgc 5 (some 14) rfl (fun K hK => ?_)
    go_simp
    ((refine (all_mk _ _ _).mono ?_); rintro e w5 ⟨rfl, hb5, hs5, hp5, hq5⟩; have hcl := HCL.out w5 hb5 hs5 hp5 hq5; clear hp5 hq5)
    refine hK.out _ _ ?ss43 (fun hHeld2 => ?rr43)
    case ss43 => (try dsimp only); exact HK.out _ (bl (Below.refl _ _).drew hb5)
    clear hK K
    clear hHeld
    have hHeld := hHeld2
    clear hHeld2
    try simp only [Act.put, rg1, rg2, rg3]
    refine rgc 10 (some 19) rfl (fun K hK => ?_)
    go_simp
    (refine hcl.mono ?_)
    (rintro e w6 ⟨hb6, hq6⟩)
    rw [want_neg HALL.out] at hq6
    (simp only at hq6)
    subst hq6
    unfold Flaw
    have HB6 := Lib.hid (bl HB.out (bl hHeld.1 hb6))
    clear hcl hb6
    go_wp2_with fail
    exact bodyPost_panic rfl (RuleQ.bad HB6.out)
end Go.Proofs.Ytjklecncdinabaa.K
