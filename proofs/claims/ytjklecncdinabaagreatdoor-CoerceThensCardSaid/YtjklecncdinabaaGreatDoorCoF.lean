/- Contract: coerce.list. -/
import Derived.Test.YtjklecncdinabaaGreatDoorCoD
namespace Go.Proofs.YtjklecncdinabaaGreatDoor.C
open Go.RowKit Go.Proofs.YtjklecncdinabaaGreatDoor.B
set_option linter.unusedVariables false
set_option linter.unusedSimpArgs false

theorem Sl.seven (w : World) (a b c d e f g : Value) (T : TypeId) : Sl (w.alloc (.cells #[a, b, c, d, e, f, g] T)) (w.heap.size + 1) 7 (some ⟨w.heap.size, 0, none⟩) 1 [a, b, c, d, e, f, g] := by
  refine ⟨rfl, .inr ⟨w.heap.size, 0, rfl, by omega, fun j u hu => ?_⟩⟩
  have h := (Blk.new w T #[a, b, c, d, e, f, g]).cell j
  rw [Nat.zero_add, h]
  simpa using hu
theorem grown_below {w w' : World} (hb : Below w.heap.size w w') (row : Option Nat) : w.grownBy w' row := ⟨hb.os, hb.tape, hb.output, hb.size, fun i hi _ => hb.block i hi⟩
theorem grown_then {a b c : World} {row row' : Option Nat} (h : a.grownBy b row) (k : b.grownBy c row') (hr : ∀ j, row' = some j → a.heap.size ≤ j ∨ row = some j) : a.grownBy c row :=
  ⟨k.os.trans h.os, k.tape.trans h.tape, k.output.trans h.output, Nat.le_trans h.size k.size, fun i hi hne =>
    (k.block i (Nat.lt_of_lt_of_le hi h.size) (fun e => by
      rcases hr i e.symm with h1 | h1
      · omega
      · exact hne h1.symm)).trans (h.block i hi hne)⟩
theorem grown_stay {C : Nat → Prop} {w w' : World} {row : Option Nat} (hg : w.grownBy w' row) (hC : ∀ b, C b → row ≠ some b) : Stay C w w' := .grown hg hC

theorem Kd.inC {w : World} {C : Nat → Prop} {g o : Nat} {vs : List Value} (h : Kd w C (some ⟨g, o, none⟩) vs) (hn : vs ≠ []) : C g := by
  rcases h with h | ⟨b, o', h1, h2, _⟩
  · exact absurd h hn
  · injection h1 with h1
    injection h1 with h1
    subst h1; exact h2
/-! ### The nodes of the kids -/
def lsK (a b : Co) : Nat → List Nd
  | 0 => []
  | 1 => a.list
  | _ + 2 => a.list ++ b.list
theorem list_part (p : Int) (j : Bool) (h : Int) (a b : Co) : (Co.part p j h a b).list = ⟨opsO h, p, j, h, 0, 0, 0⟩ :: lsK a b (opsN h) := by
  simp only [Co.list]
  rcases opsN_le h with h0 | h0 | h0 <;> rw [h0] <;> simp [lsK]
theorem lsK_next {a b : Co} {j : Nat} (hj : j < 2) : lsK a b (j + 1) = lsK a b j ++ (kidT a b j).list := by
  rcases j with _ | _ | j
  · simp [lsK, kidT]
  · simp [lsK, kidT]
  · omega
theorem lsK_le {a b : Co} {n k : Nat} (hk : k ≤ n) : (lsK a b k).length ≤ (lsK a b n).length := by
  rcases n with _ | _ | n
  · obtain rfl : k = 0 := by omega
    exact Nat.le_refl _
  · rcases k with _ | _ | k
    · simp [lsK]
    · exact Nat.le_refl _
    · omega
  · rcases k with _ | _ | k <;> simp [lsK]

/-- What list answers: a row of one's own that has grown. -/
def ListQ (base : Nat) (V : Value) (us : List Nd) (w : World) (e : Ending) (w' : World) : Prop :=
  ∃ V', e = .returned V' ∧ w'.ownsRow base 28 7 V' us.length (nds us) ∧ w.grownBy w' V.ownBlock ∧ ∀ j, V'.ownBlock = some j → w.heap.size ≤ j ∨ V.ownBlock = some j

section
variable (base : Nat) (V : Value) (ls : List Nd) (w : World)
set_option maxRecDepth 100000 in
theorem list_anyW (hown : w.ownsRow base 28 7 V ls.length (nds ls)) (hb0 : base ≤ w.heap.size) (hn : ls.length + 1 ≤ 1000000) :
    Calls Tryz.prog 24 #[V, .iface 106 (.agg #[])] w fun e w' => ListQ base V (ls ++ Co.any.list) w e w' := by
  obtain ⟨i0, hi0, hz0, hz1, hz2⟩ := info_three infoCo
  have m1 := tAF (.agg #[])
  have m2 := tAP (.agg #[])
  unfold zFail at m1
  unfold zPart at m2
  have hown1 := own_below hown (bal b0 (.cells #[.int .i8 1, .int .i64 0, .bool false, .int .u8 0, .int .i64 0, .int .u8 0, .int .u8 0] 28))
  have hone : ∀ u ∈ [Value.int .i8 1, .int .i64 0, .bool false, .int .u8 0, .int .i64 0, .int .u8 0, .int .u8 0], u.oneCell' = true := by
    intro u hu
    simp only [List.mem_cons, List.not_mem_nil, or_false] at hu
    rcases hu with rfl | rfl | rfl | rfl | rfl | rfl | rfl <;> rfl
  obtain ⟨A, c, rfl, hc1, hc2⟩ := own_shape hown
  obtain ⟨N, hN⟩ : ∃ N, ls.length = N := ⟨_, rfl⟩
  rw [hN] at hown1 hn hc1 ⊢
  go_enter Tryz.func24, Tryz.ntmps24
  go_wp2_with (at_builtin; refine wpList_append_sl _ rfl (.tmp 61) (.tmp 63) _ rfl base 28 i0 _ 7 40 Tryz.underlying22 hi0 hz0 hz1 hz2 rfl (by omega) (.slice A N c) N (nds ls) rfl hown1 (w.heap.size + 1) (some ⟨w.heap.size, 0, none⟩) 1 1 _ rfl (Sl.seven w _ _ _ _ _ _ _ _) hone (by simp only [maxLen]; omega) (by omega) (by simp only [World.size_alloc]; omega) ?_; intro V' w6 hown6 hg6 hV6)
  go_ret
  refine ⟨V', rfl, by simpa [hN, nds, Co.list, Nd.vs] using hown6, grown_then (grown_below (bal b0 _) _) hg6 (fun j h => .inr h), fun j h => ?_⟩
  rcases hV6 with e | e
  · rw [e] at h; exact .inr h
  · rw [e] at h; injection h with h; left; rw [← h]; simp only [World.size_alloc]; omega

set_option maxRecDepth 100000 in
theorem list_failW (p l f q : Int) (hown : w.ownsRow base 28 7 V ls.length (nds ls)) (hb0 : base ≤ w.heap.size) (hn : ls.length + 1 ≤ 1000000) :
    Calls Tryz.prog 24 #[V, .iface 97 (.agg #[.int .i64 p, .int .i64 l, .int .u8 f, .int .u8 q])] w fun e w' => ListQ base V (ls ++ (Co.fail p l f q).list) w e w' := by
  obtain ⟨i0, hi0, hz0, hz1, hz2⟩ := info_three infoCo
  have m1 := tFF (.agg #[.int .i64 p, .int .i64 l, .int .u8 f, .int .u8 q])
  have hbl : Below w.heap.size w (w.alloc (.cells #[.int .i64 p, .int .i64 l, .int .u8 f, .int .u8 q] 97)) := bal b0 _
  have hbl2 : Below w.heap.size w ((w.alloc (.cells #[.int .i64 p, .int .i64 l, .int .u8 f, .int .u8 q] 97)).alloc (.cells #[.int .i8 7, .int .i64 p, .bool false, .int .u8 f, .int .i64 l, .int .u8 f, .int .u8 q] 28)) := bal hbl _
  have hown1 := own_below hown hbl2
  have hone : ∀ u ∈ [Value.int .i8 7, .int .i64 p, .bool false, .int .u8 f, .int .i64 l, .int .u8 f, .int .u8 q], u.oneCell' = true := by
    intro u hu
    simp only [List.mem_cons, List.not_mem_nil, or_false] at hu
    rcases hu with rfl | rfl | rfl | rfl | rfl | rfl | rfl <;> rfl
  obtain ⟨A, c, rfl, hc1, hc2⟩ := own_shape hown
  obtain ⟨N, hN⟩ : ∃ N, ls.length = N := ⟨_, rfl⟩
  rw [hN] at hown1 hn hc1 ⊢
  go_enter Tryz.func24, Tryz.ntmps24
  go_wp2_with (at_builtin; refine wpList_append_sl _ rfl (.tmp 15) (.tmp 27) _ rfl base 28 i0 _ 7 40 Tryz.underlying22 hi0 hz0 hz1 hz2 rfl (by omega) (.slice A N c) N (nds ls) rfl hown1 (w.heap.size + 1 + 1) (some ⟨w.heap.size + 1, 0, none⟩) 1 1 _ rfl (by have := Sl.seven (w.alloc (.cells #[.int .i64 p, .int .i64 l, .int .u8 f, .int .u8 q] 97)) (.int .i8 7) (.int .i64 p) (.bool false) (.int .u8 f) (.int .i64 l) (.int .u8 f) (.int .u8 q) 28; rwa [World.size_alloc] at this) hone (by simp only [maxLen]; omega) (by omega) (by simp only [World.size_alloc]; omega) ?_; intro V' w6 hown6 hg6 hV6)
  go_ret
  refine ⟨V', rfl, by simpa [hN, nds, Co.list, Nd.vs] using hown6, grown_then (grown_below hbl2 _) hg6 (fun j h => .inr h), fun j h => ?_⟩
  rcases hV6 with e | e
  · rw [e] at h; exact .inr h
  · rw [e] at h; injection h with h; left; rw [← h]; simp only [World.size_alloc]; omega
end

set_option maxRecDepth 100000 in
set_option maxHeartbeats 2000000 in
theorem list_any (t : Co) : ∀ (v V : Value) (C : Nat → Prop) (base : Nat) (ls : List Nd) (w : World), VCo w C t v → (∀ b, C b → V.ownBlock ≠ some b) → w.ownsRow base 28 7 V ls.length (nds ls) → base ≤ w.heap.size → ls.length + t.list.length ≤ 1000000 →
    Calls Tryz.prog 24 #[V, v] w fun e w' => ListQ base V (ls ++ t.list) w e w' := by
  induction t with
  | any =>
    intro v V C base ls w hv hC hown hb0 hn
    simp only [VCo] at hv
    subst hv
    exact list_anyW base V ls w hown hb0 hn
  | fail p l f q =>
    intro v V C base ls w hv hC hown hb0 hn
    simp only [VCo] at hv
    subst hv
    exact list_failW base V ls w p l f q hown hb0 hn
  | part p j hh a b iha ihb =>
    intro v V C base ls w hv hC hown hb0 hn
    have hv2 := hv.lt
    simp only [VCo] at hv2
    obtain ⟨A, c, va, vb, rfl, hc1, hc2, hk, hva, hvb⟩ := hv2
    clear hv
    have hih : ∀ k v V C base ls w, VCo w C (kidT a b k) v → (∀ b, C b → V.ownBlock ≠ some b) → w.ownsRow base 28 7 V ls.length (nds ls) → base ≤ w.heap.size → ls.length + (kidT a b k).list.length ≤ 1000000 →
        Calls Tryz.prog 24 #[V, v] w fun e w' => ListQ base V (ls ++ (kidT a b k).list) w e w' := by
      intro k
      unfold kidT
      split
      · exact iha
      · exact ihb
    clear iha ihb
    have hn2 : opsN hh ≤ 2 := by have := opsN_le hh; omega
    rw [list_part] at hn ⊢
    have hops := fun W => ops_any hh W
    obtain ⟨n, hnn⟩ : ∃ n, opsN hh = n := ⟨_, rfl⟩
    obtain ⟨oO, hoO⟩ : ∃ x, opsO hh = x := ⟨_, rfl⟩
    rw [hnn] at hn hn2 hc1 hk hops ⊢
    rw [hoO] at hn hops ⊢
    clear hnn hoO
    obtain ⟨i0, hi0, hz0, hz1, hz2⟩ := info_three infoCo
    have m1 := tPF (.agg #[.int .i64 p, .bool j, .int .u8 hh, .slice A n c])
    have m2 := tPP (.agg #[.int .i64 p, .bool j, .int .u8 hh, .slice A n c])
    unfold zFail at m1
    have hbl : Below w.heap.size w (w.alloc (.cells #[.int .i64 p, .bool j, .int .u8 hh, .slice A n c] 100)) := bal b0 _
    have hbl2 : Below w.heap.size w ((w.alloc (.cells #[.int .i64 p, .bool j, .int .u8 hh, .slice A n c] 100)).alloc (.cells #[.int .i8 oO, .int .i64 p, .bool j, .int .u8 hh, .int .i64 0, .int .u8 0, .int .u8 0] 28)) := bal hbl _
    have hown1 := own_below hown hbl2
    have hblk : Blk ((w.alloc (.cells #[.int .i64 p, .bool j, .int .u8 hh, .slice A n c] 100)).alloc (.cells #[.int .i8 oO, .int .i64 p, .bool j, .int .u8 hh, .int .i64 0, .int .u8 0, .int .u8 0] 28)) w.heap.size 100 #[.int .i64 p, .bool j, .int .u8 hh, .slice A n c] := (Blk.new w _ _).alloc _
    have hone : ∀ u ∈ [Value.int .i8 oO, .int .i64 p, .bool j, .int .u8 hh, .int .i64 0, .int .u8 0, .int .u8 0], u.oneCell' = true := by
      intro u hu
      simp only [List.mem_cons, List.not_mem_nil, or_false] at hu
      rcases hu with rfl | rfl | rfl | rfl | rfl | rfl | rfl <;> rfl
    obtain ⟨AV, cV, rfl, hcV1, hcV2⟩ := own_shape hown
    have hlt : ∀ x, (Value.slice AV ls.length cV).ownBlock = some x → base ≤ x ∧ x < w.heap.size := fun x hx => hown.lt x hx
    obtain ⟨N, hN⟩ : ∃ N, ls.length = N := ⟨_, rfl⟩
    have hN1 : N + 1 ≤ 1000000 := by rw [← hN]; simp only [List.length_cons] at hn; omega
    rw [hN] at hown1 hC hlt hcV1 ⊢
    have HN := Lib.hid (And.intro hN hn)
    have HIH := Lib.hid hih
    have HK := Lib.hid (And.intro hk (And.intro hva (And.intro hvb (And.intro hC hlt))))
    have HBK := Lib.hid hblk
    clear hih hk hva hvb hC hlt hown hN hn hblk
    go_enter Tryz.func24, Tryz.ntmps24
    go_wp2_with fail
    (refine (hops _).mono ?_); rintro ev w1 ⟨rfl, rfl⟩
    clear hops
    go_upto_region 9 with (at_builtin; refine wpList_append_sl _ rfl (.tmp 38) (.tmp 47) _ rfl base 28 i0 _ 7 40 Tryz.underlying22 hi0 hz0 hz1 hz2 rfl (by omega) (.slice AV N cV) N (nds ls) rfl hown1 (w.heap.size + 1 + 1) (some ⟨w.heap.size + 1, 0, none⟩) 1 1 _ rfl (by have := Sl.seven (w.alloc (.cells #[.int .i64 p, .bool j, .int .u8 hh, .slice A n c] 100)) (.int .i8 oO) (.int .i64 p) (.bool j) (.int .u8 hh) (.int .i64 0) (.int .u8 0) (.int .u8 0) 28; rwa [World.size_alloc] at this) hone (by simp only [maxLen]; omega) (by omega) (by simp only [World.size_alloc]; omega) ?_; intro V' w6 hown6 hg6 hV6)
    obtain ⟨hk, hva, hvb, hC, hlt⟩ := HK.out
    have hbd : Below w.heap.size w ((w.alloc (.cells #[.int .i64 p, .bool j, .int .u8 hh, .slice A n c] 100)).alloc (.cells #[.int .i8 oO, .int .i64 p, .bool j, .int .u8 hh, .int .i64 0, .int .u8 0, .int .u8 0] 28)) := hbl2
    have hg0 : w.grownBy w6 (Value.slice AV N cV).ownBlock := grown_then (grown_below hbd _) hg6 (fun j h => .inr h)
    have h3 : w6.cell? ⟨w.heap.size, 3, none⟩ = some (.slice A n c) := by
      have hne : (Value.slice AV N cV).ownBlock ≠ some w.heap.size := fun e => by have := (hlt _ e).2; omega
      have e1 := (grown_stay (C := fun b => b = w.heap.size) hg6 (fun b hb => by rw [hb]; exact hne)) ⟨w.heap.size, 3, none⟩ rfl (by simp only [World.size_alloc]; omega)
      rw [e1, HBK.out.cell 3]; rfl
    have hVb : ∀ x, V'.ownBlock = some x → w.heap.size ≤ x ∨ (Value.slice AV N cV).ownBlock = some x := fun x hx => by
      rcases hV6 with e | e
      · rw [e] at hx; exact .inr hx
      · rw [e] at hx; injection hx with hx; left; rw [← hx]; simp only [World.size_alloc]; omega
    have hr0 : w6.ownsRow base 28 7 V' (ls ++ ⟨oO, p, j, hh, 0, 0, 0⟩ :: lsK a b 0).length (nds (ls ++ ⟨oO, p, j, hh, 0, 0, 0⟩ :: lsK a b 0)) := by
      have := hown6
      simp only [lsK, List.length_append, List.length_cons, List.length_nil, HN.out.1]
      simpa [nds, Nd.vs] using this
    have HR0 := Lib.hid (And.intro hg0 (And.intro hVb hr0))
    obtain ⟨X, hX⟩ : ∃ X, (Value.slice AV N cV).ownBlock = X := ⟨_, rfl⟩
    clear hbl hbl2 hbd hown1 hone hown6 hg6 hV6 hg0 hVb hr0 m1 m2 hk hva hvb hC hlt
    go_wp2_with fail
    go_loopg [0, 52] n (fun g z i wr => ∃ (k : Nat) (V : Value), V = z ∧ k ≤ n ∧ g = n - k ∧ i = .int .i64 k ∧ w.grownBy wr X ∧ (∀ x, V.ownBlock = some x → w.heap.size ≤ x ∨ X = some x) ∧
      wr.ownsRow base 28 7 V (ls ++ ⟨oO, p, j, hh, 0, 0, 0⟩ :: lsK a b k).length (nds (ls ++ ⟨oO, p, j, hh, 0, 0, 0⟩ :: lsK a b k)))
    case atStart => exact ⟨0, _, rfl, by omega, rfl, rfl, by rw [← hX]; exact HR0.out.1, by rw [← hX]; exact HR0.out.2.1, HR0.out.2.2⟩
    case round =>
      obtain ⟨k, V, rfl, hk0, rfl, rfl, hgr, hVx, hrow⟩ := hrel
      have HG := Lib.hid hgr
      have HX := Lib.hid hVx
      have HW := Lib.hid hrow
      clear hgr hVx hrow h3
      by_cases hlt : k < n
      · obtain ⟨hk, hva, hvb, hC, hlo⟩ := HK.out
        obtain ⟨g, o, x, rfl, hcx, hgl, hvx⟩ := kid_at hn2 hlt hk hva hvb
        have hCx : ∀ b, (C b ∧ b < w.heap.size) → X ≠ some b := fun b hb => by rw [← hX]; exact hC b hb.1
        have hCg := hk.inC (by rcases n with _ | n; omega; simp)
        have hst : Stay (fun b => C b ∧ b < w.heap.size) w wr := grown_stay HG.out hCx
        have hcx2 : wr.cell? ⟨g, o + k, none⟩ = some x := (hst ⟨g, o + k, none⟩ hCg hgl).trans hcx
        have hcall := HIH.out k x V _ base (ls ++ ⟨oO, p, j, hh, 0, 0, 0⟩ :: lsK a b k) wr (hvx.stay hst fun _ h => h) (fun b hb e => by
          rcases HX.out b e with h1 | h1
          · have := hb.2; omega
          · exact hCx b hb h1) HW.out (Nat.le_trans hb0 HG.out.size) (by
            have h1 := HN.out.2
            have h2 := lsK_le (a := a) (b := b) (show k + 1 ≤ n by omega)
            rw [lsK_next (show k < 2 by omega)] at h2
            simp only [List.length_append, List.length_cons] at h1 h2 ⊢
            omega)
        unfold ListQ at hcall
        obtain ⟨D, z, rfl⟩ := hvx.face
        obtain ⟨A5, c5, rfl, hc51, hc52⟩ := own_shape HW.out
        obtain ⟨L5, hL5⟩ : ∃ x, (ls ++ ⟨oO, p, j, hh, 0, 0, 0⟩ :: lsK a b k).length = x := ⟨_, rfl⟩
        have HL5 := Lib.hid hL5
        rw [hL5] at hcall HX ⊢
        clear hk hva hvb hC hlo hcx hst hvx hCx hL5 hc51 hc52
        go_wp2_with fail
        (refine hcall.mono ?_); rintro e w2 ⟨V2, rfl, ho2, hg2, hx2⟩
        clear hcall
        have HO2 := Lib.hid (And.intro ho2 (And.intro hg2 hx2))
        clear ho2 hg2 hx2
        go_wp2_with fail
        go_roundg (n - (k + 1))
        case measure => omega
        case rel =>
          obtain ⟨ho2, hg2, hx2⟩ := HO2.out
          refine ⟨k + 1, _, rfl, by omega, rfl, by go_num, grown_then HG.out hg2 HX.out, fun x hx => ?_, ?_⟩
          · rcases hx2 x hx with h1 | h1
            · exact .inl (Nat.le_trans HG.out.size h1)
            · exact HX.out x h1
          · rw [lsK_next (show k < 2 by omega)]
            simpa only [List.append_assoc, List.cons_append] using ho2
      · obtain rfl : k = n := by omega
        go_wp2_with fail
        go_ret
        exact ⟨_, rfl, HW.out, by rw [hX]; exact HG.out, by rw [hX]; exact HX.out⟩
end Go.Proofs.YtjklecncdinabaaGreatDoor.C
