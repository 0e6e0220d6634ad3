/- Contracts: the answer's List and Then. -/
import Derived.Test.YtjklecncdinabaaGreatDoorCqC
import Derived.Test.YtjklecncdinabaaGreatDoorCoLw
import Derived.Test.YtjklecncdinabaaGreatDoorCpD
namespace Go.Proofs.YtjklecncdinabaaGreatDoor.C
open Go.RowKit Go.Proofs.YtjklecncdinabaaGreatDoor.B
set_option linter.unusedVariables false
set_option linter.unusedSimpArgs false

/-- The nodes of the kids, so many of them. -/
def kl (t : Co) (k : Nat) : List Nd := (List.range k).flatMap fun j => (t.kid j).list
theorem kl_next (t : Co) (k : Nat) : kl t (k + 1) = kl t k ++ (t.kid k).list := by simp [kl, List.range_succ]
theorem list_nd (t : Co) : t.list = t.nd :: kl t t.nk := by
  cases t with
  | any => rfl
  | fail p l f q => rfl
  | part p j h a b =>
    rw [list_part]
    have e : lsK a b (opsN h) = kl (.part p j h a b) (opsN h) := by
      rcases opsN_le h with h0 | h0 | h0 <;> rw [h0] <;> simp [lsK, kl, List.range_succ, Co.kid, kidT]
    rw [e]; rfl
theorem kl_le (t : Co) {k n : Nat} (h : k ≤ n) : (kl t k).length ≤ (kl t n).length := by
  induction n with
  | zero => obtain rfl : k = 0 := by omega
            exact Nat.le_refl _
  | succ n ih =>
    by_cases e : k = n + 1
    · subst e; exact Nat.le_refl _
    · have := ih (by omega)
      rw [kl_next, List.length_append]; omega
theorem own_fresh7 (w : World) (base : Nat) (hb : base ≤ w.heap.size) (a b c d e f g : Value) (T : TypeId) : (w.alloc (.cells #[a, b, c, d, e, f, g] T)).ownsRow base T 7 (.slice (some ⟨w.heap.size, 0, none⟩) 1 1) 1 [a, b, c, d, e, f, g] :=
  ⟨rfl, .inr ⟨w.heap.size, 1, _, rfl, hb, heap_alloc_new w _, Nat.le_refl _, by unfold maxLen; omega, rfl, rfl⟩⟩

def ListRQ (us : List Nd) (w : World) (e : Ending) (w' : World) : Prop := ∃ V, e = .returned V ∧ w'.ownsRow w.heap.size 28 7 V us.length (nds us) ∧ Below w.heap.size w w'

set_option maxRecDepth 100000 in
set_option maxHeartbeats 2000000 in
theorem listR_step (t : Co) (A : Option Addr) (n c : Nat) (C : Nat → Prop) (w : World) (hs : TrS w C t (.slice A n c)) (hn : t.nk = n) (hl : t.list.length ≤ 1000000)
    (ih : ∀ m, m < n → ∀ s C w, TrS w C (t.kid m) s → (t.kid m).list.length ≤ 1000000 → Calls Tryz.prog 26 #[TV (t.kid m) s] w fun e w' => ListRQ (t.kid m).list w e w') :
    Calls Tryz.prog 26 #[TV t (.slice A n c)] w fun e w' => ListRQ t.list w e w' := by
  unfold ListRQ at *
  rw [TV_eq]
  have hnb : n ≤ 2 := by rw [← hn]; exact nk_le t
  have hll := list_nd t
  rw [hn] at hll
  obtain ⟨LL, hLL⟩ : ∃ LL, t.list = LL := ⟨_, rfl⟩
  rw [hLL] at hl hll ⊢
  have hkd := fun (m : Nat) (hm : m < n) => hs.kid (j := m) (by rw [hn]; exact hm)
  obtain ⟨nd1, hnd⟩ : ∃ x, t.nd = x := ⟨_, rfl⟩
  rw [hnd] at hll ⊢
  obtain ⟨xo, xp, xi, xh, xl, xf, xt⟩ := nd1
  simp only
  have HLL := Lib.hid hll
  have HIH := Lib.hid ih
  have HKD := Lib.hid hkd
  have HL := Lib.hid hl
  obtain ⟨i0, hi0, hz0, hz1, hz2⟩ := info_three infoCo
  clear hll ih hkd hl hs hLL hnd hn
  go_enter Tryz.func26, Tryz.ntmps26
  go_upto_region 3 with fail
  obtain ⟨W1, hW1⟩ : ∃ W1, w.alloc (.cells #[.int .i8 xo, .int .i64 xp, .bool xi, .int .u8 xh, .int .i64 xl, .int .u8 xf, .int .u8 xt, .slice A n c] 31) = W1 := ⟨_, rfl⟩
  rw [hW1]
  have hb1 : Below w.heap.size w W1 := by rw [← hW1]; exact bal b0 _
  have hx1 : Blk W1 w.heap.size 31 #[.int .i8 xo, .int .i64 xp, .bool xi, .int .u8 xh, .int .i64 xl, .int .u8 xf, .int .u8 xt, .slice A n c] := by rw [← hW1]; exact Blk.new _ _ _
  have hs1 : W1.heap.size = w.heap.size + 1 := by rw [← hW1]; simp only [World.size_alloc]
  obtain ⟨W2, hW2⟩ : ∃ W2, W1.alloc (.cells #[.int .i8 xo, .int .i64 xp, .bool xi, .int .u8 xh, .int .i64 xl, .int .u8 xf, .int .u8 xt] 28) = W2 := ⟨_, rfl⟩
  have hown : W2.ownsRow (w.heap.size + 1) 28 7 (.slice (some ⟨w.heap.size + 1, 0, none⟩) 1 1) 1 (nds [⟨xo, xp, xi, xh, xl, xf, xt⟩]) := by
    have h0 : (Value.slice (some ⟨w.heap.size + 1, 0, none⟩) 1 1) = .slice (some ⟨W1.heap.size, 0, none⟩) 1 1 := by rw [hs1]
    rw [h0, ← hW2]; exact own_fresh7 W1 (w.heap.size + 1) (by omega) _ _ _ _ _ _ _ _
  have hb2 : Below w.heap.size w W2 := by rw [← hW2]; exact bal hb1 _
  have hx2 : Blk W2 w.heap.size 31 #[.int .i8 xo, .int .i64 xp, .bool xi, .int .u8 xh, .int .i64 xl, .int .u8 xf, .int .u8 xt, .slice A n c] := by rw [← hW2]; exact hx1.alloc _
  rw [hW2]
  have HS := Lib.hid (And.intro hown (And.intro hb2 hx2))
  clear hW1 hW2 hb1 hx1 hown hb2 hx2 hs1
  go_loopg [3, 4] n (fun g v u wr => ∃ (k : Nat) (V : Value), V = v ∧ k ≤ n ∧ g = n - k ∧ u = .int .i64 k ∧ Below w.heap.size w wr ∧ Blk wr w.heap.size 31 #[.int .i8 xo, .int .i64 xp, .bool xi, .int .u8 xh, .int .i64 xl, .int .u8 xf, .int .u8 xt, .slice A n c] ∧
    wr.ownsRow (w.heap.size + 1) 28 7 V ((⟨xo, xp, xi, xh, xl, xf, xt⟩ : Nd) :: kl t k).length (nds (⟨xo, xp, xi, xh, xl, xf, xt⟩ :: kl t k)))
  case atStart => exact ⟨0, _, rfl, by omega, rfl, rfl, HS.out.2.1, HS.out.2.2, HS.out.1⟩
  case round =>
    obtain ⟨k, V, rfl, hk, rfl, rfl, hbr, hblk, hrow⟩ := hrel
    obtain ⟨AV, cV, rfl, hcV1, hcV2⟩ := own_shape hrow
    have x7 := (hblk.cell 7).trans rfl
    have HR := Lib.hid (And.intro hbr (And.intro hblk hrow))
    clear hbr hblk hrow
    by_cases hlt : k < n
    · obtain ⟨g, o, s, rfl, hCg, hgl, hsk, q0, q1, q2, q3, q4, q5, q6, q7⟩ := HKD.out k hlt
      obtain ⟨Ak, ck, rfl, hk1, hk2⟩ := hsk.slice
      have kc : ∀ i u, w.cell? ⟨g, i, none⟩ = some u → wr.cell? ⟨g, i, none⟩ = some u := fun i u hu => (HR.out.1.cell (p := ⟨g, i, none⟩) hgl).trans hu
      have p0 := kc _ _ q0
      have p1 := kc _ _ q1
      have p2 := kc _ _ q2
      have p3 := kc _ _ q3
      have p4 := kc _ _ q4
      have p5 := kc _ _ q5
      have p6 := kc _ _ q6
      have p7 := kc _ _ q7
      have hlen : ((⟨xo, xp, xi, xh, xl, xf, xt⟩ : Nd) :: kl t (k + 1)).length ≤ 1000000 := by
        have h1 := HL.out
        rw [HLL.out] at h1
        have h2 := kl_le t (show k + 1 ≤ n by omega)
        simp only [List.length_cons] at h1 ⊢
        omega
      rw [kl_next] at hlen
      simp only [List.length_cons, List.length_append] at hlen
      have hcall := HIH.out k hlt _ _ wr (hsk.below HR.out.1) (by omega)
      rw [TV_eq] at hcall
      obtain ⟨kL, hkL⟩ : ∃ x, (t.kid k).list = x := ⟨_, rfl⟩
      rw [hkL] at hcall hlen
      generalize (t.kid k).nk = kn at *
      generalize (t.kid k).nd = nd2 at *
      obtain ⟨ko, kp, ki, kh, kl', kf, kt⟩ := nd2
      simp only at p0 p1 p2 p3 p4 p5 p6 p7 hcall
      have HCALL := Lib.hid hcall
      have HKL := Lib.hid hkL
      obtain ⟨N, hN⟩ : ∃ N, ((⟨xo, xp, xi, xh, xl, xf, xt⟩ : Nd) :: kl t k).length = N := ⟨_, rfl⟩
      rw [hN] at hcV1 ⊢
      have hNk : N + kL.length ≤ 1000000 := by simp only [List.length_cons] at hN; omega
      have HN := Lib.hid hN
      clear q0 q1 q2 q3 q4 q5 q6 q7 kc hsk hcall hkL hN hlen
      go_wp2_with fail
      (refine HCALL.out.mono ?_); rintro ev w3 ⟨V3, rfl, hown3, hb3⟩
      obtain ⟨A3, c3, rfl, h31, h32⟩ := own_shape hown3
      have hrow := HR.out.2.2
      rw [HN.out] at hrow
      have hrow3 := own_below hrow hb3
      have hsl := own_LN hown3 rfl
      have hwr := HR.out.1.size
      have hw3 := hb3.size
      have hone : ∀ u ∈ nds kL, u.oneCell' = true := by
        intro u hu
        obtain ⟨nd, hnd, hu⟩ := List.mem_flatMap.1 hu
        exact nd_one nd u hu
      have hxl := HR.out.2.1.lt
      have HM := Lib.hid (And.intro hrow (And.intro hb3 hone))
      clear hrow hb3 hone hown3
      go_wp2_with (at_builtin; refine wpList_append_sl _ rfl (.tmp 15) (.tmp 21) _ rfl (w.heap.size + 1) 28 i0 _ 7 40 Tryz.underlying22 hi0 hz0 hz1 hz2 rfl (by omega) (.slice AV N cV) N _ rfl hrow3 w3.heap.size A3 kL.length c3 _ rfl hsl HM.out.2.2 (by simp only [maxLen]; omega) (by omega) (by omega) ?_; intro V' w6 hown6 hg6 hV6)
      obtain ⟨hrow, hb3, _⟩ := HM.out
      have hst : ∀ x, (Value.slice AV N cV).ownBlock = some x → w.heap.size + 1 ≤ x := fun x hx => (hrow.lt x hx).1
      have h6 : Below w.heap.size w w6 := (bl HR.out.1 hb3).grown hg6 (by omega) (fun x hx => by have := hst x hx; omega)
      have hbk6 := (HR.out.2.1.below hb3 hxl).grown hg6 (fun e => by have := hst _ e.symm; omega)
      have HF := Lib.hid (And.intro h6 (And.intro hbk6 hown6))
      clear hrow hb3 h6 hbk6 hown6 hg6 hV6 hst hrow3 hsl
      go_wp2_with fail
      go_roundg (n - (k + 1))
      case measure => omega
      case rel =>
        refine ⟨k + 1, _, rfl, by omega, rfl, by go_num, HF.out.1, HF.out.2.1, ?_⟩
        have h := HF.out.2.2
        rw [kl_next, HKL.out]
        have hn := HN.out
        simp only [List.length_cons, List.length_append] at hn ⊢
        rw [show (kl t k).length + kL.length + 1 = N + kL.length by omega]
        simpa [nds] using h
    · obtain rfl : k = n := by omega
      go_wp2_with fail
      go_ret
      have h := HR.out.2.2
      rw [← HLL.out] at h
      refine ⟨_, rfl, ?_, HR.out.1⟩
      have hsh : ∀ {W : World} {b b' : Nat} {T : TypeId} {sz n : Nat} {v : Value} {xs : List Value}, W.ownsRow b T sz v n xs → b' ≤ b → W.ownsRow b' T sz v n xs := by
        intro W b b' T sz n v xs h hb
        refine ⟨h.1, ?_⟩
        rcases h.2 with h1 | ⟨g, cap, cur, h2, h3, r⟩
        · exact .inl h1
        · exact .inr ⟨g, cap, cur, h2, by omega, r⟩
      rw [HLL.out] at h ⊢
      exact hsh h (by omega)

theorem listR_any (t : Co) : ∀ (s : Value) (C : Nat → Prop) (w : World), TrS w C t s → t.list.length ≤ 1000000 → Calls Tryz.prog 26 #[TV t s] w fun e w' => ListRQ t.list w e w' := by
  induction t with
  | any =>
    intro s C w hs hl
    obtain ⟨A, c, rfl, _, _⟩ := hs.slice
    exact listR_step .any A _ c C w hs rfl hl (fun m hm => absurd hm (by simp [Co.nk]))
  | fail p l f q =>
    intro s C w hs hl
    obtain ⟨A, c, rfl, _, _⟩ := hs.slice
    exact listR_step (.fail p l f q) A _ c C w hs rfl hl (fun m hm => absurd hm (by simp [Co.nk]))
  | part p j h a b iha ihb =>
    intro s C w hs hl
    obtain ⟨A, c, rfl, _, _⟩ := hs.slice
    refine listR_step (.part p j h a b) A _ c C w hs rfl hl (fun m hm s C w => ?_)
    simp only [Co.kid]
    unfold kidT
    split
    · exact iha s C w
    · exact ihb s C w

theorem NV_TV (t : Co) (A : Option Addr) (c : Nat) : NV t.nd A t.nk c = TV t (.slice A t.nk c) := rfl

set_option maxRecDepth 100000 in
set_option maxHeartbeats 4000000 in
theorem thenR_any (l l2 : List Nd) (A A2 : Option Addr) (c c2 : Nat) (w : World) (hA : LN w A l) (hA2 : LN w A2 l2) (hbig : l.length + l2.length ≤ 1000000) :
    Calls Tryz.prog 10 #[.slice A l.length c, .slice A2 l2.length c2] w fun e w' => ThenR (thenL l l2).1 (thenL l l2).2 w e w' := by
  have h := ReadR_top l A c w (by omega) hA
  have g : ∀ W, Below w.heap.size w W → Calls Tryz.prog 7 #[.slice A2 l2.length c2] W fun e w' => ReadTQ (treeC l2) W e w' := fun W hb => ReadR_top l2 A2 c2 W (by omega) (hA2.below hb)
  have ho : ∀ a b, treeC l = some a → treeC l2 = some b → okC a ∧ okC b ∧ (meetC a b = true → (thenC a b).list.length ≤ 1000000) := fun a b h1 h2 => ⟨(treeC_some h1).2.1, (treeC_some h2).2.1, fun hm => by
    have h3 := then_len _ a b (Nat.le_refl _) hm
    rw [(treeC_some h1).1, (treeC_some h2).1] at hbig
    omega⟩
  have hT : thenL l l2 = match treeC l, treeC l2 with
    | some a, some b => if meetC a b = true then ((thenC a b).list, 0) else ([], 30)
    | _, _ => ([], 20) := rfl
  obtain ⟨T, hTT⟩ : ∃ T, thenL l l2 = T := ⟨_, rfl⟩
  rw [hTT] at hT ⊢
  generalize treeC l = R at *
  generalize treeC l2 = R2 at *
  have HG := Lib.hid g
  have HO := Lib.hid ho
  have HT := Lib.hid hT
  clear hA hA2 g ho hTT hT hbig
  go_enter Tryz.func10, Tryz.ntmps10
  go_wp2_with fail
  (refine h.mono ?_); rintro ev w1 ⟨hb, hq⟩
  clear h
  cases R with
  | none =>
    obtain ⟨⟨v0, v1, v2, v3, v4, v5, v6⟩, Ax, nk, cx, rfl⟩ := hq
    unfold NV
    simp only
    go_wp2_with fail
    go_ret2
    rw [HT.out]
    exact ThenR.none _ (bal hb _)
  | some s =>
    obtain ⟨As, cs, rfl, hs⟩ := hq
    have hsv := NV_TV s As cs
    obtain ⟨sk, hsk⟩ : ∃ x, s.nk = x := ⟨_, rfl⟩
    rw [hsk] at hs hsv ⊢
    obtain ⟨⟨s0, s1, s2, s3, s4, s5, s6⟩, hsn⟩ : ∃ x, s.nd = x := ⟨_, rfl⟩
    rw [hsn] at hsv ⊢
    unfold NV at *
    simp only at *
    have HS := Lib.hid (And.intro hs hsv)
    clear hs hsv hsk hsn
    go_wp2_with fail
    (refine (HG.out _ (bal hb _)).mono ?_); rintro ev w2 ⟨hb2, hq2⟩
    have HX1 := Lib.hid ((Blk.new w1 31 #[.int .i8 s0, .int .i64 s1, .bool s2, .int .u8 s3, .int .i64 s4, .int .u8 s5, .int .u8 s6, .slice As sk cs]).below hb2 (by simp only [World.size_alloc]; omega))
    have HB := Lib.hid (And.intro hb (bl (bal b0 _) hb2))
    clear hb hb2
    cases R2 with
    | none =>
      obtain ⟨⟨v0, v1, v2, v3, v4, v5, v6⟩, Ax, nk, cx, rfl⟩ := hq2
      unfold NV
      simp only
      go_wp2_with fail
      go_ret2
      rw [HT.out]
      exact ThenR.none _ (bal (bl HB.out.1 HB.out.2) _)
    | some t =>
      obtain ⟨At, ct, rfl, ht⟩ := hq2
      have htv := NV_TV t At ct
      obtain ⟨tk, htk⟩ : ∃ x, t.nk = x := ⟨_, rfl⟩
      rw [htk] at ht htv ⊢
      obtain ⟨⟨t0, t1, t2, t3, t4, t5, t6⟩, htn⟩ : ∃ x, t.nd = x := ⟨_, rfl⟩
      rw [htn] at htv ⊢
      unfold NV at *
      simp only at *
      clear htk htn
      have hvs := (HS.out.1.below HB.out.2).lt
      have hvt := ht.lt
      have hmeet := fun W (hb : Below w2.heap.size w2 W) => meetsR_callW _ s t _ _ _ _ W (Nat.le_refl _) (HO.out s t rfl rfl).1 (HO.out s t rfl rfl).2.1 (hvs.below hb) (hvt.below hb)
      obtain ⟨m, hm⟩ : ∃ m, meetC s t = m := ⟨_, rfl⟩
      have hboth : m = true → ∀ W, Below w2.heap.size w2 W → Calls Tryz.prog 27 #[TV s (.slice As sk cs), TV t (.slice At tk ct)] W fun e w' => BothQ (fun b => (w.heap.size ≤ b ∧ b < w2.heap.size) ∨ (w1.heap.size ≤ b ∧ b < w2.heap.size)) (thenC s t) W e w' := fun e W hb3 => by
        subst e
        have := hb3.size
        refine bothR_callW _ s t _ _ _ _ W (Nat.le_refl _) (HO.out s t rfl rfl).1 (HO.out s t rfl rfl).2.1 hm (fun b hb => ?_) (fun b hb => ?_) (hvs.below hb3) ((hvt.mono fun b hb => ?_).below hb3)
        · have := hb.2; omega
        · have := hb.2; omega
        · have h1 : w1.heap.size + 1 ≤ b := by simpa [World.size_alloc] using hb.1
          exact ⟨by omega, hb.2⟩
      have hln : m = true → (thenC s t).list.length ≤ 1000000 := fun e => (HO.out s t rfl rfl).2.2 (hm.trans e)
      rw [← htv] at hmeet hboth
      rw [← HS.out.2] at hmeet hboth
      unfold MeetRQ at hmeet
      rw [hm] at hmeet
      have hT := HT.out
      try simp only at hT
      rw [hm] at hT
      have HTH := Lib.hid hboth
      have HME := Lib.hid hmeet
      have HLN := Lib.hid hln
      have HT2 := Lib.hid hT
      have hx1 := HX1.out.alloc (.cells #[.int .i8 t0, .int .i64 t1, .bool t2, .int .u8 t3, .int .i64 t4, .int .u8 t5, .int .u8 t6, .slice At tk ct] 31)
      obtain ⟨x0, x1, x2, x3, x4, x5, x6, x7⟩ := blk_cells8 hx1
      have HX := Lib.hid hx1
      clear hm HO hvs hvt hboth hmeet hln hT HT hx1 HX1 ht htv
      go_wp2_with fail
      (refine (HME.out _ (bal b0 _)).mono ?_); rintro ev w3 ⟨rfl, hb3⟩
      have hx3 := HX.out.below hb3 HX.out.lt
      have hy3 := (Blk.new w2 31 #[.int .i8 t0, .int .i64 t1, .bool t2, .int .u8 t3, .int .i64 t4, .int .u8 t5, .int .u8 t6, .slice At tk ct]).below hb3 (by simp only [World.size_alloc]; omega)
      have hb23 : Below w2.heap.size w2 w3 := bl (bal b0 _) hb3
      have HB3 := Lib.hid (And.intro hb23 (bl (bl HB.out.1 HB.out.2) hb23))
      clear x0 x1 x2 x3 x4 x5 x6 x7 hb3 hb23
      obtain ⟨x0, x1, x2, x3, x4, x5, x6, x7⟩ := blk_cells8 hx3
      obtain ⟨y0, y1, y2, y3, y4, y5, y6, y7⟩ := blk_cells8 hy3
      clear hx3 hy3
      cases m with
      | false =>
        go_wp2_with fail
        go_ret2
        rw [HT2.out]
        exact ThenR.none _ HB3.out.2
      | true =>
        go_wp2_with fail
        (refine (HTH.out trivial _ HB3.out.1).mono ?_); rintro ev w4 ⟨v4, rfl, hv4, hb4⟩
        have hlist := listR_any (thenC s t) v4 _ w4 hv4 (HLN.out trivial)
        have hbb := bl HB3.out.2 hb4
        unfold TV at *
        clear hv4 hb4
        generalize (thenC s t).nd = rn at *
        obtain ⟨r0, r1, r2, r3, r4, r5, r6⟩ := rn
        simp only at *
        go_wp2_with fail
        (refine hlist.mono ?_); rintro ev w5 ⟨V5, rfl, ho5, hb5⟩
        clear hlist
        go_wp2_with fail
        go_ret2
        rw [HT2.out, if_pos trivial]
        have hsh : ∀ {W : World} {b b' : Nat} {T : TypeId} {sz n : Nat} {v : Value} {xs : List Value}, W.ownsRow b T sz v n xs → b' ≤ b → W.ownsRow b' T sz v n xs := by
          intro W b b' T sz n v xs h hb
          refine ⟨h.1, ?_⟩
          rcases h.2 with h1 | ⟨g, cap, cur, h2, h3, r⟩
          · exact .inl h1
          · exact .inr ⟨g, cap, cur, h2, by omega, r⟩
        exact ⟨_, rfl, hsh ho5 hbb.size, bl hbb hb5⟩
end Go.Proofs.YtjklecncdinabaaGreatDoor.C
