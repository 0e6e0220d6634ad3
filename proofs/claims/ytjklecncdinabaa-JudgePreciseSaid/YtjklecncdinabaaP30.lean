/- Parts of this claim: JuD, JuE, Sites, LabA. -/
import Derived.RangeFuncNested
import Derived.RangeFuncBound
import Derived.RangeFuncCalls
import Derived.RangeFuncLeaves
import Derived.Shelf.Abstract
import Derived.Shelf.RegionOpen
import Derived.WalkKit
import Derived.OwnWalkIn
import Derived.TacticsInMore
import Derived.LoopNIn
import Derived.LoopIn
import Derived.WalkLawsBesides
import Derived.WalkSpells
import Derived.Deep.QuietTactic
import Derived.BigQuiet
import Derived.Test.YtjklecncdinabaaP29
import Derived.Test.YtjklecncdinabaaP11
import Derived.Test.YtjklecncdinabaaP00
import Derived.Test.YtjklecncdinabaaProg
set_option linter.unusedVariables false
set_option linter.unusedSimpArgs false
/- JuD -/
namespace Go.Proofs.Ytjklecncdinabaa.J
open Go.RowKit Go.Proofs.Ytjklecncdinabaa.B Go.Proofs.Ytjklecncdinabaa.T Go.Proofs.Ytjklecncdinabaa.K
set_option linter.unusedVariables false
set_option linter.unusedSimpArgs false

/-- A cast's cells, in a list of what was laid. -/
def ldV (n : Tn) : List Value := [.int .i64 n.n, .string n.t, .string n.u]
def lds (l : List Tn) : List Value := l.flatMap ldV
theorem lds_len (l : List Tn) : (lds l).length = l.length * 3 := by
  induction l with
  | nil => rfl
  | cons s l ih => simp only [lds, List.flatMap_cons, List.length_append, List.length_cons] at *; rw [ih]; simp [ldV]; omega
theorem lds_at (l : List Tn) : ∀ (k : Nat) (s : Tn) (j : Nat), l[k]? = some s → j < 3 → (lds l)[k * 3 + j]? = (ldV s)[j]? := by
  induction l with
  | nil => intro k s j h; simp at h
  | cons x l ih =>
    intro k s j h hj
    have hl : (ldV x).length = 3 := rfl
    cases k with
    | zero =>
      simp at h; subst h
      simp only [lds, List.flatMap_cons]
      rw [List.getElem?_append_left (by omega)]; simp
    | succ k =>
      simp at h
      simp only [lds, List.flatMap_cons]
      rw [List.getElem?_append_right (by omega)]
      have := ih k s j h hj
      simp only [lds] at this
      rw [show (k + 1) * 3 + j - (ldV x).length = k * 3 + j by omega]; exact this
theorem laid_next {L : List Tn} {k : Nat} {s : Tn} (h : L[k]? = some s) : laidL (L.take (k + 1)) = laidL (L.take k) ++ (if s.kd = 30 then [s] else []) := by
  unfold laidL
  rw [List.take_add_one, h, Option.toList_some, List.filter_append]
  congr 1
  by_cases hk : s.kd = 30 <;> simp [hk]
theorem laid_le (L : List Tn) (k : Nat) : (laidL (L.take k)).length ≤ k := by
  unfold laidL
  have h1 := List.length_filter_le (fun n : Tn => n.kd == 30) (L.take k)
  have h2 := List.length_take_le k L
  omega
theorem one_oneK (w : World) (vs : List Value) (T : TypeId) : Sl (w.alloc (.cells vs.toArray T)) (w.heap.size + 1) vs.length (some ⟨w.heap.size, 0, none⟩) 1 vs := by
  refine ⟨by simp, .inr ⟨w.heap.size, 0, rfl, by omega, fun j u hu => ?_⟩⟩
  simpa using hu
theorem info_ld : (Try.prog.info? 39).map (fun i => (i.zero, i.size, i.bytes)) = some (some (.agg #[.int .i64 0, .string ⟨#[]⟩, .string ⟨#[]⟩]), 3, 40) := by kernel_rfl
theorem info_partsJ {P : Program} {e : TypeId} {z : Value} {sz by_ : Nat} (h : (P.info? e).map (fun i => (i.zero, i.size, i.bytes)) = some (some z, sz, by_)) : ∃ i, P.info? e = some i ∧ i.zero = some z ∧ i.size = sz ∧ i.bytes = by_ := by
  obtain ⟨i, hi, h⟩ := Option.map_eq_some_iff.1 h
  simp only [Prod.mk.injEq] at h
  exact ⟨i, hi, h.1, h.2.1, h.2.2⟩

/-- What Casts answers. -/
def CastsQ (R : Rs Ty) (L : List Tn) (w : World) (e : Ending) (w' : World) : Prop := Below w.heap.size w w' ∧ match R with
  | .ok _ => ∃ v, e = .returned (.tuple #[v, .int .i64 0]) ∧ w'.ownsRow w.heap.size 39 3 v (laidL L).length (lds (laidL L))
  | .bad E _ => e = .returned (.tuple #[.slice none 0 0, .int .i64 E])

set_option maxRecDepth 100000 in
set_option maxHeartbeats 2000000 in
theorem Casts_any (L : List Tn) (A : Option Addr) (c : Nat) (w : World) (hN : L.length ≤ 1000000) (hLc : L.length ≤ c) (hS : ∀ x ∈ L, x.small) (hL : LT w w.heap.size A L) :
    Calls Try.prog 8 #[.slice A L.length c] w fun e w' => CastsQ (chk L) L w e w' := by
  have hC := fun W (hW : LT W W.heap.size A L) => Check_any L A c W hN hLc hS hW
  have HA := Lib.hid (show ∀ W, Below w.heap.size w W → LT W W.heap.size A L from fun W hb => (hL.below hb).fresh (Nat.le_refl _))
  obtain ⟨i0, hi0, hz0, hz1, hz2⟩ := info_partsJ info_ld
  have hC0 := hC w hL
  have hnz : ∀ E x, chk L = .bad E x → E ≠ 0 := fun E x h => chk_bad h
  clear hC hS hL hLc
  generalize chk L = R at *
  unfold CastsQ
  cases R with
  | bad E x =>
    have hE := hnz E x rfl
    have hE2 : (E != 0) = true := by simpa using hE
    clear hnz hE HA
    unfold chkV at hC0
    go_enter Try.func8, Try.ntmps8
    go_wp2_with fail
    (refine hC0.mono ?_); rintro e w1 ⟨rfl, hb⟩
    go_wp2_with fail
    go_ret2
    exact ⟨hb, rfl⟩
  | ok t =>
    clear hnz
    unfold chkV at hC0
    have HC := Lib.hid hC0
    clear hC0
    go_enter Try.func8, Try.ntmps8
    go_wp2_with fail
    (refine HC.out.mono ?_); rintro e w1 ⟨rfl, hb1⟩
    go_wp2_with fail
    have HB1 := Lib.hid hb1
    clear hb1 HC
    go_loopg [7, 21] L.length (fun q v i wr => ∃ k : Nat, k ≤ L.length ∧ q = L.length - k ∧ i = .int .i64 k ∧ wr.ownsRow w.heap.size 39 3 v (laidL (L.take k)).length (lds (laidL (L.take k))) ∧ Below w.heap.size w wr)
    case atStart => exact ⟨0, by omega, rfl, rfl, World.ownsRow_nil _ _ _ _, HB1.out⟩
    case round =>
      obtain ⟨k, hk, rfl, rfl, ho, hb⟩ := hrel
      obtain ⟨Av, cv, rfl, hv1, hv2⟩ := own_shape ho
      by_cases hlt : k < L.length
      · obtain ⟨s, hs⟩ : ∃ s, L[k]? = some s := ⟨_, List.getElem?_eq_getElem hlt⟩
        obtain ⟨bb, o, rfl, hbn, hbb, c0, c1, c2, c3, c4, c5, c6, c7⟩ := (HA.out _ hb).node hs
        have hM := laid_le L k
        have HN := Lib.hid (laid_next hs)
        obtain ⟨M, hMM⟩ : ∃ M, (laidL (L.take k)).length = M := ⟨_, rfl⟩
        obtain ⟨xs, hxs⟩ : ∃ xs, laidL (L.take k) = xs := ⟨_, rfl⟩
        rw [hxs] at hMM HN
        have HM := Lib.hid hMM
        rw [hxs, hMM] at ho
        rw [hxs, hMM] at hv1 hM ⊢
        have HO := Lib.hid ho
        clear ho hs hMM hxs hbn
        by_cases hkd : s.kd = 30
        · have e1 : (s.kd == 30) = true := by simpa using hkd
          have HKD := Lib.hid hkd
          clear hkd
          have hl0 : ((wr.alloc (.cells #[.int .i8 s.kd, .int .i64 s.kids, .int .i64 s.n, .string s.s, .string s.t, .string s.u, .int .i64 s.ln, .int .i64 s.cl] 50)).alloc (.cells #[Value.int .i64 s.n, .string s.t, .string s.u] 39)).ownsRow w.heap.size 39 3 (.slice Av M cv) M (lds xs) :=
            World.ownsRow.alloc (World.ownsRow.alloc HO.out _) _
          have s1 : ∀ u ∈ [Value.int .i64 s.n, .string s.t, .string s.u], u.oneCell' = true := by
            intro u hu; simp at hu; rcases hu with rfl | rfl | rfl <;> rfl
          have s2 : M + 1 ≤ maxLen := by unfold maxLen; omega
          have s3 : (M + 1) * 40 ≤ 140737488355328 := by omega
          have s4 : w.heap.size ≤ ((wr.alloc (.cells #[.int .i8 s.kd, .int .i64 s.kids, .int .i64 s.n, .string s.s, .string s.t, .string s.u, .int .i64 s.ln, .int .i64 s.cl] 50)).alloc (.cells #[Value.int .i64 s.n, .string s.t, .string s.u] 39)).heap.size := by have := hb.size; simp; omega
          have s5 := one_oneK (wr.alloc (.cells #[.int .i8 s.kd, .int .i64 s.kids, .int .i64 s.n, .string s.s, .string s.t, .string s.u, .int .i64 s.ln, .int .i64 s.cl] 50)) ([Value.int .i64 s.n, .string s.t, .string s.u]) 39
          have e5 : (wr.alloc (.cells #[.int .i8 s.kd, .int .i64 s.kids, .int .i64 s.n, .string s.s, .string s.t, .string s.u, .int .i64 s.ln, .int .i64 s.cl] 50)).heap.size = wr.heap.size + 1 := by simp
          rw [e5] at s5
          have S1 := Lib.hid s1
          have S4 := Lib.hid s4
          have S5 := Lib.hid s5
          have L0 := Lib.hid hl0
          clear s1 s4 s5 hl0 e5
          go_wp2_with (at_builtin; refine wpList_append_sl _ rfl (.tmp 28) (.tmp 36) 33 rfl w.heap.size 39 i0 _ 3 40 Try.underlying33 hi0 hz0 hz1 hz2 rfl (by omega) _ M _ rfl L0.out _ _ 1 1 ([Value.int .i64 s.n, .string s.t, .string s.u]) rfl S5.out S1.out s2 s3 S4.out ?_)
          intro v1 w2 hown1 hg1 hat1
          have hb2 : Below w.heap.size w w2 := (((hb.alloc hb.size _).alloc (by have := hb.size; simp; omega) _).grown hg1 S4.out (fun g hg => (HO.out.lt g hg).1))
          clear S1 S4 S5 L0 hg1 hat1
          go_wp2_with fail
          go_roundg (L.length - (k + 1))
          case measure => omega
          case rel =>
            refine ⟨k + 1, by omega, rfl, by go_num, ?_, hb2⟩
            rw [HN.out, if_pos HKD.out, List.length_append, HM.out, lds, List.flatMap_append]
            simpa [lds, ldV] using hown1
        · have e1 : (s.kd == 30) = false := by simpa using hkd
          have HKD := Lib.hid hkd
          clear hkd
          go_wp2_with fail
          go_roundg (L.length - (k + 1))
          case measure => omega
          case rel =>
            refine ⟨k + 1, by omega, rfl, by go_num, ?_, hb.alloc hb.size _⟩
            rw [HN.out, if_neg HKD.out, List.append_nil, HM.out]
            exact World.ownsRow.alloc HO.out _
      · obtain rfl : k = L.length := by omega
        rw [List.take_of_length_le (Nat.le_refl _)] at ho
        have HO := Lib.hid ho
        clear ho
        rw [List.take_of_length_le (Nat.le_refl _)] at hv1 ⊢
        go_wp2_with fail
        go_ret2
        exact ⟨hb, _, rfl, HO.out⟩

theorem strNe {t : Ty} {T : ByteArray} : ((str t).toList == T.toList) = decide (str t = T) := by
  rw [Bool.eq_iff_iff]
  simp only [Lib.toList_data, beq_iff_eq, decide_eq_true_eq]
  constructor
  · intro h; exact ByteArray.ext (Array.toList_inj.1 h)
  · intro e; rw [e]
/-- What check answers. -/
def ChkQ (R : Int × List Tn) (w : World) (e : Ending) (w' : World) : Prop := Below w.heap.size w w' ∧ if R.1 = 0 then ∃ v, e = .returned (.tuple #[v, .int .i64 0]) ∧ w'.ownsRow w.heap.size 39 3 v R.2.length (lds R.2)
  else e = .returned (.tuple #[.slice none 0 0, .int .i64 R.1])
theorem ChkQ.bad {E : Int} {l : List Tn} {w w' : World} (h : Below w.heap.size w w') (hE : E ≠ 0) : ChkQ (E, l) w (.returned (.tuple #[.slice none 0 0, .int .i64 E])) w' := by
  refine ⟨h, ?_⟩
  rw [if_neg hE]
theorem ChkQ.ok {l : List Tn} {v : Value} {w w' : World} (h : Below w.heap.size w w') (hv : w'.ownsRow w.heap.size 39 3 v l.length (lds l)) : ChkQ (0, l) w (.returned (.tuple #[v, .int .i64 0])) w' := by
  refine ⟨h, ?_⟩
  rw [if_pos rfl]
  exact ⟨v, rfl, hv⟩
theorem ld_cells {W : World} {base n c k : Nat} {A : Option Addr} {l : List Tn} {s : Tn} (h : W.ownsRow base 39 3 (.slice A n c) n (lds l)) (hk : k < n) (hs : l[k]? = some s) :
    ∃ b, A = some ⟨b, 0, none⟩ ∧ b < W.heap.size ∧ W.cell? ⟨b, k * 3, none⟩ = some (.int .i64 s.n) ∧ W.cell? ⟨b, k * 3 + 1, none⟩ = some (.string s.t) ∧ W.cell? ⟨b, k * 3 + 2, none⟩ = some (.string s.u) := by
  obtain ⟨g, cap, hv, _, hlt⟩ := h.form (by omega)
  injection hv with hA _ _
  subst hA
  have key : ∀ j u, j < 3 → (ldV s)[j]? = some u → W.cell? ⟨g, k * 3 + j, none⟩ = some u := by
    intro j u hj hu
    have := h.cells (g := g) rfl (k * 3 + j) u (by rw [lds_at l k s j hs hj]; exact hu)
    rwa [add_flat, Nat.zero_add] at this
  exact ⟨g, rfl, hlt, key 0 _ (by omega) rfl, key 1 _ (by omega) rfl, key 2 _ (by omega) rfl⟩

set_option maxRecDepth 100000 in
set_option maxHeartbeats 2000000 in
theorem check_j (L : List Tn) (A : Option Addr) (c : Nat) (T : ByteArray) (B : Option Addr) (N d : Nat) (w : World) (hN : L.length ≤ 1000000) (hNN : N ≤ 1000000) (hLc : L.length ≤ c) (hS : ∀ x ∈ L, x.small) (hL : LT w w.heap.size A L) :
    Calls Try.prog 15 #[.agg #[.slice A L.length c, .string T, .slice B N d]] w fun e w' => ChkQ (chkP L T N) w e w' := by
  have hC := fun W (hW : LT W W.heap.size A L) => Check_any L A c W hN hLc hS hW
  have hCa := fun W (hW : LT W W.heap.size A L) => Casts_any L A c W hN hLc hS hW
  have HA := Lib.hid (show ∀ W, Below w.heap.size w W → LT W W.heap.size A L from fun W hb => (hL.below hb).fresh (Nat.le_refl _))
  have hnz : ∀ E x, chk L = .bad E x → E ≠ 0 := fun E x h => chk_bad h
  have HP := Lib.hid (show ∀ t, chk L = .ok t → chkP L T N = if str t ≠ T then (23, []) else if ∃ c ∈ laidL L, (N : Int) < c.n then (1, []) else (0, laidL L) from fun t h => by unfold chkP; rw [h])
  have HQ := Lib.hid (show ∀ E x, chk L = .bad E x → chkP L T N = (E, []) from fun E x h => by unfold chkP; rw [h])
  have HM := Lib.hid (show (laidL L).length ≤ L.length from by have := laid_le L L.length; rwa [List.take_of_length_le (Nat.le_refl _)] at this)
  obtain ⟨P, hP⟩ : ∃ P, chkP L T N = P := ⟨_, rfl⟩
  rw [hP] at HP HQ
  rw [hP]
  clear hP hL hS hLc
  have HC := Lib.hid hC
  clear hC
  generalize chk L = R at *
  cases R with
  | bad E x =>
    have hE := hnz E x rfl
    have hE2 : (E != 0) = true := by simpa using hE
    have hq := HQ.out E x rfl
    subst hq
    have HB := Lib.hid hE
    clear hnz hE hCa HM HP HQ
    go_enter Try.func15, Try.ntmps15
    go_wp2_with fail
    obtain ⟨W0, hW0⟩ : ∃ W0, w.alloc (.cells #[.slice A L.length c, .string T, .slice B N d] 25) = W0 := ⟨_, rfl⟩
    have hb0 : Below w.heap.size w W0 := by rw [← hW0]; exact bal b0 _
    have hk0 : Blk W0 w.heap.size 25 #[.slice A L.length c, .string T, .slice B N d] := by rw [← hW0]; exact Blk.new _ _ _
    have hC0 := HC.out W0 (HA.out _ hb0)
    rw [hW0]
    unfold chkV at hC0
    (refine hC0.mono ?_); rintro e w1 ⟨rfl, hb⟩
    clear hW0 hk0
    have HB1 := Lib.hid (bl hb0 hb)
    clear hb0 hb hC0
    go_wp2_with fail
    go_ret2
    exact ChkQ.bad HB1.out HB.out
  | ok t =>
    have hq := HP.out t rfl
    have HCa := Lib.hid hCa
    clear hnz hCa HP HQ
    have hne := strNe (t := t) (T := T)
    by_cases hT : str t = T
    rotate_left
    · rw [if_pos hT] at hq
      subst hq
      rw [decide_eq_false hT] at hne
      clear hT
      go_enter Try.func15, Try.ntmps15
      go_wp2_with fail
      obtain ⟨W0, hW0⟩ : ∃ W0, w.alloc (.cells #[.slice A L.length c, .string T, .slice B N d] 25) = W0 := ⟨_, rfl⟩
      have hb0 : Below w.heap.size w W0 := by rw [← hW0]; exact bal b0 _
      have hk0 : Blk W0 w.heap.size 25 #[.slice A L.length c, .string T, .slice B N d] := by rw [← hW0]; exact Blk.new _ _ _
      have hC0 := HC.out W0 (HA.out _ hb0)
      rw [hW0]
      unfold chkV at hC0
      have HB := Lib.hid (And.intro hb0 hk0)
      (refine hC0.mono ?_); rintro e w1 ⟨rfl, hb⟩
      clear hb0 hk0 hC0
      have hk1 := HB.out.2.below hb HB.out.2.lt
      have k1 : w1.cell? ⟨w.heap.size, 1, none⟩ = some (.string T) := (hk1.cell 1).trans rfl
      clear hW0 hk1
      have HB1 := Lib.hid (bl HB.out.1 hb)
      clear hb
      go_wp2_with fail
      go_ret2
      exact ChkQ.bad HB1.out (by decide)
    rw [if_neg (by simpa using hT)] at hq
    rw [decide_eq_true hT] at hne
    clear hT
    have HQ := Lib.hid hq
    clear hq
    go_enter Try.func15, Try.ntmps15
    go_wp2_with fail
    obtain ⟨W0, hW0⟩ : ∃ W0, w.alloc (.cells #[.slice A L.length c, .string T, .slice B N d] 25) = W0 := ⟨_, rfl⟩
    have hb0 : Below w.heap.size w W0 := by rw [← hW0]; exact bal b0 _
    have hk0 : Blk W0 w.heap.size 25 #[.slice A L.length c, .string T, .slice B N d] := by rw [← hW0]; exact Blk.new _ _ _
    have hC0 := HC.out W0 (HA.out _ hb0)
    rw [hW0]
    unfold chkV at hC0
    have HB := Lib.hid (And.intro hb0 hk0)
    (refine hC0.mono ?_); rintro e w1 ⟨rfl, hb⟩
    clear hb0 hk0 hC0
    have hk1 := HB.out.2.below hb HB.out.2.lt
    have k0 : w1.cell? ⟨w.heap.size, 0, none⟩ = some (.slice A L.length c) := (hk1.cell 0).trans rfl
    have k1 : w1.cell? ⟨w.heap.size, 1, none⟩ = some (.string T) := (hk1.cell 1).trans rfl
    have HB1 := Lib.hid (And.intro (bl HB.out.1 hb) hk1)
    clear hb hk1 hW0
    go_wp2_with fail
    (refine (HCa.out w1 (HA.out _ HB1.out.1)).mono ?_); rintro e w2 ⟨hb, v, rfl, ho⟩
    obtain ⟨Av, cv, rfl, hv1, hv2⟩ := own_shape ho
    obtain ⟨l, hl⟩ : ∃ l, laidL L = l := ⟨_, rfl⟩
    rw [hl] at HQ HM ho hv1
    rw [hl]
    clear hl
    obtain ⟨M, hM⟩ : ∃ M, l.length = M := ⟨_, rfl⟩
    rw [hM] at HM ho hv1
    rw [hM]
    have hMN : M ≤ 1000000 := Nat.le_trans HM.out hN
    have HO := Lib.hid (And.intro (bl HB1.out.1 hb) (And.intro (HB1.out.2.below hb HB1.out.2.lt) (And.intro ho hM)))
    clear hb ho hM k0 k1
    go_wp2_with fail
    go_loopg [33] M (fun q i wr => ∃ k : Nat, k ≤ M ∧ q = M - k ∧ i = .int .i64 k ∧ (∀ x ∈ l.take k, x.n ≤ (N : Int)) ∧ Below w2.heap.size w2 wr)
    case atStart => exact ⟨0, by omega, rfl, rfl, by intro x hx; simp at hx, Below.refl _ _⟩
    case round =>
      obtain ⟨k, hk, rfl, rfl, hall, hb⟩ := hrel
      have HALL := Lib.hid hall
      clear hall
      by_cases hlt : k < M
      · obtain ⟨s, hs⟩ : ∃ s, l[k]? = some s := ⟨_, List.getElem?_eq_getElem (by rw [HO.out.2.2.2]; exact hlt)⟩
        obtain ⟨bb, rfl, hbb, c0, c1, c2⟩ := ld_cells HO.out.2.2.1 hlt hs
        replace c0 := (hb.cell (p := ⟨bb, k * 3, none⟩) hbb).trans c0
        replace c1 := (hb.cell (p := ⟨bb, k * 3 + 1, none⟩) hbb).trans c1
        replace c2 := (hb.cell (p := ⟨bb, k * 3 + 2, none⟩) hbb).trans c2
        have hk2 := HO.out.2.1.below hb HO.out.2.1.lt
        have k2 : wr.cell? ⟨w.heap.size, 2, none⟩ = some (.slice B N d) := (hk2.cell 2).trans rfl
        have HS := Lib.hid hs
        have hsz : w.heap.size < wr.heap.size := hk2.lt
        have HB2 := Lib.hid hb
        clear hs hk2 hb
        by_cases hgt : (N : Int) < s.n
        · have HG := Lib.hid hgt
          go_wp2_with fail
          go_ret2
          rw [HQ.out, if_pos ⟨s, List.mem_of_getElem? HS.out, HG.out⟩]
          exact ChkQ.bad (bal (bl HO.out.1 HB2.out) _) (by decide)
        · have HG := Lib.hid hgt
          have hle : s.n ≤ (N : Int) := by omega
          go_wp2_with fail
          go_roundg (M - (k + 1))
          case measure => omega
          case rel =>
            refine ⟨k + 1, by omega, rfl, by go_num, ?_, HB2.out.alloc HB2.out.size _⟩
            intro x hx
            rw [List.take_add_one, HS.out] at hx
            simp only [Option.toList_some, List.mem_append, List.mem_singleton] at hx
            rcases hx with hx | rfl
            · exact HALL.out x hx
            · have := HG.out; omega
      · obtain rfl : k = M := by omega
        go_wp2_with fail
        go_ret2
        have hall := HALL.out
        rw [List.take_of_length_le (by rw [HO.out.2.2.2]; exact Nat.le_refl _)] at hall
        rw [HQ.out, if_neg (by rintro ⟨x, hx, h⟩; have := hall x hx; omega)]
        have ho := own_below HO.out.2.2.1 hb
        have hM := HO.out.2.2.2
        refine ChkQ.ok (bl HO.out.1 hb) ?_
        rw [hM]
        exact own_less ho (by have := HB1.out.1.size; omega)
end Go.Proofs.Ytjklecncdinabaa.J

/- JuE -/
namespace Go.Proofs.Ytjklecncdinabaa.J
open Go.RowKit Go.Shelf Go.Proofs.Ytjklecncdinabaa.B Go.Proofs.Ytjklecncdinabaa.T Go.Proofs.Ytjklecncdinabaa.K
set_option linter.unusedVariables false
set_option linter.unusedSimpArgs false
attribute [local go_sem] Oper.semAt_some

/-- What a loop's body keeps: whatever holds cells, but for block g. -/
def KpJ (g : Nat) (W W' : World) : Prop := W.heap.size ≤ W'.heap.size ∧ ∀ k o, k ≠ g → W.heap[k]? = some o → o.isCells = true → W'.heap[k]? = some o
theorem KpJ.refl (g : Nat) (W : World) : KpJ g W W := ⟨Nat.le_refl _, fun _ _ _ h _ => h⟩
theorem KpJ.trans {g : Nat} {A B C : World} (h : KpJ g A B) (k : KpJ g B C) : KpJ g A C := ⟨Nat.le_trans h.1 k.1, fun i o hg hi ho => k.2 i o hg (h.2 i o hg hi ho) ho⟩
theorem KpJ.below {g : Nat} {W W' : World} (h : Below W.heap.size W W') : KpJ g W W' := ⟨h.size, fun k o _ hk _ => (h.block k (Array.getElem?_eq_some_iff.1 hk).1).trans hk⟩
theorem KpJ.cell {g : Nat} {W W' : World} (h : KpJ g W W') {b o : Nat} {u : Value} (hg : b ≠ g) (hc : W.cell? ⟨b, o, none⟩ = some u) : W'.cell? ⟨b, o, none⟩ = some u := by
  obtain ⟨x, hx, hxc⟩ := cells_of_cell hc
  exact (World.cell?_of_block (w := W) (w' := W') (a := ⟨b, o, none⟩) ((h.2 b x hg hx hxc).trans hx.symm)).trans hc
/-- The list of what was laid, as the iterator reads it. -/
def LdAt (g : Nat) (W : World) (A : Option Addr) (l : List Tn) : Prop := l = [] ∨ ∃ b, A = some ⟨b, 0, none⟩ ∧ b < W.heap.size ∧ b ≠ g ∧ ∀ j u, (lds l)[j]? = some u → W.cell? ⟨b, j, none⟩ = some u
theorem LdAt.keep {g : Nat} {W W' : World} {A : Option Addr} {l : List Tn} (h : LdAt g W A l) (hk : KpJ g W W') : LdAt g W' A l := by
  rcases h with h | ⟨b, h1, h2, h3, h4⟩
  · exact .inl h
  · exact .inr ⟨b, h1, Nat.lt_of_lt_of_le h2 hk.1, h3, fun j u hu => hk.cell h3 (h4 j u hu)⟩
theorem LdAt.at_ {g : Nat} {W : World} {A : Option Addr} {l : List Tn} (h : LdAt g W A l) {k : Nat} {s : Tn} (hs : l[k]? = some s) :
    ∃ b, A = some ⟨b, 0, none⟩ ∧ b < W.heap.size ∧ b ≠ g ∧ W.cell? ⟨b, k * 3, none⟩ = some (.int .i64 s.n) ∧ W.cell? ⟨b, k * 3 + 1, none⟩ = some (.string s.t) ∧ W.cell? ⟨b, k * 3 + 2, none⟩ = some (.string s.u) := by
  rcases h with h | ⟨b, h1, h2, h3, h4⟩
  · subst h; simp at hs
  · exact ⟨b, h1, h2, h3, h4 _ _ (by rw [← Nat.add_zero (k * 3), lds_at l k s 0 hs (by omega)]; rfl), h4 _ _ (by rw [lds_at l k s 1 hs (by omega)]; rfl), h4 _ _ (by rw [lds_at l k s 2 hs (by omega)]; rfl)⟩
/-- A blame of one of N labels. -/
structure Bn (N : Nat) where
  v : Int
  h : (1 ≤ v ∧ v ≤ (N : Int)) ∨ (1 ≤ -v ∧ -v ≤ (N : Int))
theorem grown_of {W W' : World} (h : Below W.heap.size W W') : W.grownBy W' none := ⟨h.os, h.tape, h.output, h.size, fun k hk _ => h.block k hk⟩
theorem abides {α : Type} {B : Nat} {J : List α → World → Prop} (hJ : AbidesFrom B J) {s : List α} {W W' : World} (h : J s W) (hb : Below W.heap.size W W') : J s W' := hJ s W W' none h (grown_of hb) (fun r e => by cases e)
theorem blL_next {l : List Tn} {k : Nat} {s : Tn} (h : l[k]? = some s) : blL (l.take (k + 1)) = blL (l.take k) ++ blC s := by
  unfold blL; rw [List.take_add_one, h]; simp
theorem blL_pre (l : List Tn) (k : Nat) : blL (l.take k) <+: blL l := ⟨blL (l.drop k), by unfold blL; rw [← List.flatMap_append, List.take_append_drop]⟩
theorem blC_len (s : Tn) : (blC s).length ≤ 2 := by unfold blC; rcases plusC s <;> rcases minusC s <;> simp
theorem blL_len (l : List Tn) : (blL l).length ≤ 2 * l.length := by
  induction l with
  | nil => simp [blL]
  | cons a l ih => have := blC_len a; simp only [blL, List.flatMap_cons, List.length_append, List.length_cons] at *; omega

set_option maxRecDepth 100000 in
set_option maxHeartbeats 4000000 in
theorem unsafe1_in (hS : ∀ S T : Ty, ∀ w, S.ok → T.ok → S.code.length ≤ 64 → T.code.length ≤ 64 → Calls Try.prog 24 #[.string (str S), .string (str T)] w fun e w' => e = .returned (.tuple #[.bool (plusT S T), .bool (minusT S T)]) ∧ Below w.heap.size w w')
    (n g bx y : Nat) (hn : 1 ≤ n) (A : Option Addr) (c : Nat) (l : List Tn) (hl : l.length ≤ 1000000) (N : Nat) (hC : ∀ x ∈ l, Cst x ∧ x.n ≤ (N : Int)) (hbg : bx ≠ g) (J Jx : List (Bn N) → World → Prop)
    (W : World) (hgW : g < W.heap.size) (hJ : AbidesFrom W.heap.size J)
    (hY : ∀ pre x W1, J pre W1 → pre.length < 2 * l.length → YieldAt Fence.wide (n - 1) Try.prog y #[.int .i64 x.v] W1 fun e W' =>
      (e = .returned (.bool true) ∧ J (pre ++ [x]) W' ∧ KpJ g W1 W') ∨ (e = .returned (.bool false) ∧ Jx (pre ++ [x]) W'))
    (hc : W.cell? ⟨bx, 0, none⟩ = some (.slice A l.length c)) (hA : LdAt g W A l) (h0 : J [] W) :
    CallsIn Fence.wide n Try.prog 23 #[.func (.yield y) #[] #[], .pointer (some ⟨bx, 0, none⟩)] W fun e W' => (∃ v, e = .returned v) ∧
      ((∃ xs : List (Bn N), xs.map Bn.v = blL l ∧ J xs W') ∨ (∃ pre, True ∧ Jx pre W')) := by
  refine callsIn_of_wp Try.func23 rfl trivial ?_ rfl
  simp only [Try.ntmps23, List.size_toArray, List.length_cons, List.length_nil, Nat.reduceAdd, Nat.reduceSub, Array.replicate_succ, Array.replicate_zero, List.push_toArray, List.append_toArray, List.nil_append, List.cons_append]
  gi_wp2
  gi_loopw [9] (fun i wr => ∃ k : Nat, k ≤ l.length ∧ i = .int .i64 k ∧ (∃ ys : List (Bn N), ys.map Bn.v = blL (l.take k) ∧ J ys wr) ∧ KpJ g W wr) (fun i _ => l.length - (intOf i).toNat)
  case atStart => exact ⟨0, Nat.zero_le _, rfl, ⟨[], by simp [blL], h0⟩, KpJ.refl _ _⟩
  case round =>
    obtain ⟨k, hk, rfl, ⟨ys, hys, hJs⟩, hnx⟩ := hrel
    by_cases hlt : k < l.length
    · obtain ⟨s, hs⟩ : ∃ s, l[k]? = some s := ⟨_, List.getElem?_eq_getElem hlt⟩
      obtain ⟨b, rfl, hb1, hb2, c0, c1, c2⟩ := (hA.keep hnx).at_ hs
      obtain ⟨hcs, hcN⟩ := hC s (List.mem_of_getElem? hs)
      obtain ⟨sok, st, s64⟩ := ty_spec hcs.1
      obtain ⟨uok, ut, u64⟩ := ty_spec hcs.2.1
      have hside := fun w => hS (ty s.t) (ty s.u) w sok uok s64 u64
      rw [← st, ← ut] at hside
      change ∀ w, Calls _ _ _ w fun e w' => e = .returned (.tuple #[.bool (plusC s), .bool (minusC s)]) ∧ _ at hside
      have HN := Lib.hid (blL_next hs)
      obtain ⟨p, hp⟩ : ∃ p, plusC s = p := ⟨_, rfl⟩
      obtain ⟨m, hm⟩ : ∃ m, minusC s = m := ⟨_, rfl⟩
      rw [hp, hm] at hside
      have hr1 := hcs.2.2.2.1
      have hr2 := hcs.2.2.2.2
      have HPM := Lib.hid (And.intro hp hm)
      clear st ut sok uok s64 u64 hcs hs hp hm
      have hJb := Lib.hid (fun s' W' (h : J s' wr) (hb : Below wr.heap.size wr W') => abides (s := s') (W' := W') hJ h hb)
      have hJb2 := Lib.hid (fun s' W1 W' (h : J s' W1) (hb : Below W1.heap.size W1 W') => abides (s := s') (W := W1) (W' := W') hJ h hb)
      have hlen : ys.length ≤ 2 * k := by have := blL_len (l.take k); rw [List.length_take, ← hys, List.length_map] at this; omega
      have HYS := Lib.hid hys
      clear hys
      have hgr : g < wr.heap.size := Nat.lt_of_lt_of_le hgW hnx.1
      have c9 := hnx.cell hbg hc
      gi_wp2
      refine ⟨trivial, (callsIn_wide.2 (hside _)).mono ?_⟩
      rintro e w1 ⟨rfl, hb1⟩
      have hbx1 : Blk w1 wr.heap.size 39 #[.int .i64 s.n, .string s.t, .string s.u] := (Blk.new wr _ _).below hb1 (by simp)
      have hbw1 : Below wr.heap.size wr w1 := bl (bal b0 _) hb1
      have hJ1 := hJb.out _ _ hJs hbw1
      have hk1 : KpJ g W w1 := hnx.trans (KpJ.below hbw1)
      have x0 : w1.cell? ⟨wr.heap.size, 0, none⟩ = some (.int .i64 s.n) := (hbx1.cell 0).trans rfl
      have hwr : IntKind.i64.wrap (-s.n) = -s.n := IntWalk.i64_in _ (by omega)
      have hsz : wr.heap.size ≠ g := by omega
      clear c0 c1 c2 hside hb1 hbw1 hJs hbx1
      cases p
      · cases m
        · obtain ⟨f1, t1, a1, d1, hy1, hR1⟩ := hY _ (⟨s.n, .inl ⟨hr1, hcN⟩⟩ : Bn N) w1 hJ1 (by omega)
          change (Instr.yield y #[.int .i64 s.n]).run _ _ = _ at hy1
          gi_wp2
          refine hR1.mono ?_
          rintro e W3 (⟨rfl, hJ3, hk3⟩ | ⟨rfl, hx3⟩)
          · obtain ⟨f2, t2, a2, d2, hy2, hR2⟩ := hY _ (⟨-s.n, .inr ⟨by omega, by omega⟩⟩ : Bn N) W3 hJ3 (by rw [List.length_append]; simp; omega)
            change (Instr.yield y #[.int .i64 (-s.n)]).run _ _ = _ at hy2
            have x3 := hk3.cell hsz x0
            clear x0 hy1 hR1
            gi_wp2
            refine hR2.mono ?_
            rintro e W4 (⟨rfl, hJ4, hk4⟩ | ⟨rfl, hx4⟩)
            · gi_wp2
              go_roundw
              case rel => exact ⟨k + 1, by omega, by simp, ⟨_, by rw [HN.out]; unfold blC; rw [HPM.out.1, HPM.out.2, ← HYS.out]; simp, hJ4⟩, (hk1.trans hk3).trans hk4⟩
              case measure => simp [intOf]; omega
            · gi_wp2
              refine bodyPost_ret (results_none rfl _ _ _) rfl ?_
              exact ⟨⟨_, rfl⟩, .inr ⟨_, trivial, hx4⟩⟩
          · gi_wp2
            all_goals try exact absurd ‹some undef = some (Value.bool _)› (by simp [undef])
            refine ⟨fun _ h => (by cases h), ?_⟩
            gi_wp2
            refine bodyPost_ret (results_none rfl _ _ _) rfl ?_
            exact ⟨⟨_, rfl⟩, .inr ⟨_, trivial, hx3⟩⟩
        · obtain ⟨f1, t1, a1, d1, hy1, hR1⟩ := hY _ (⟨s.n, .inl ⟨hr1, hcN⟩⟩ : Bn N) w1 hJ1 (by omega)
          change (Instr.yield y #[.int .i64 s.n]).run _ _ = _ at hy1
          gi_wp2
          refine hR1.mono ?_
          rintro e W3 (⟨rfl, hJ3, hk3⟩ | ⟨rfl, hx3⟩)
          · gi_wp2
            all_goals try exact absurd ‹some undef = some (Value.bool _)› (by simp [undef])
            refine ⟨fun _ h => (by cases h), ?_⟩
            gi_wp2
            go_roundw
            case rel => exact ⟨k + 1, by omega, by simp, ⟨_, by rw [HN.out]; unfold blC; rw [HPM.out.1, HPM.out.2, ← HYS.out]; simp, hJ3⟩, hk1.trans hk3⟩
            case measure => simp [intOf]; omega
          · gi_wp2
            all_goals try exact absurd ‹some undef = some (Value.bool _)› (by simp [undef])
            refine ⟨fun _ h => (by cases h), ?_⟩
            gi_wp2
            refine bodyPost_ret (results_none rfl _ _ _) rfl ?_
            exact ⟨⟨_, rfl⟩, .inr ⟨_, trivial, hx3⟩⟩
      · cases m
        · obtain ⟨f1, t1, a1, d1, hy1, hR1⟩ := hY _ (⟨-s.n, .inr ⟨by omega, by omega⟩⟩ : Bn N) w1 hJ1 (by omega)
          change (Instr.yield y #[.int .i64 (-s.n)]).run _ _ = _ at hy1
          gi_wp2
          all_goals try exact absurd ‹some undef = some (Value.bool _)› (by simp [undef])
          refine ⟨fun _ h => (by cases h), ?_⟩
          gi_wp2
          refine hR1.mono ?_
          rintro e W3 (⟨rfl, hJ3, hk3⟩ | ⟨rfl, hx3⟩)
          · gi_wp2
            go_roundw
            case rel => exact ⟨k + 1, by omega, by simp, ⟨_, by rw [HN.out]; unfold blC; rw [HPM.out.1, HPM.out.2, ← HYS.out]; simp, hJ3⟩, hk1.trans hk3⟩
            case measure => simp [intOf]; omega
          · gi_wp2
            refine bodyPost_ret (results_none rfl _ _ _) rfl ?_
            exact ⟨⟨_, rfl⟩, .inr ⟨_, trivial, hx3⟩⟩
        · gi_wp2
          all_goals try exact absurd ‹some undef = some (Value.bool _)› (by simp [undef])
          refine ⟨fun _ h => (by cases h), ?_⟩
          gi_wp2
          go_roundw
          case rel => exact ⟨k + 1, by omega, by simp, ⟨_, by rw [HN.out]; unfold blC; rw [HPM.out.1, HPM.out.2, ← HYS.out]; simp, hJ1⟩, hk1⟩
          case measure => simp [intOf]; omega
    · obtain rfl : k = l.length := by omega
      gi_wp2
      go_end0
      exact ⟨⟨_, rfl⟩, .inl ⟨ys, by rw [List.take_of_length_le (Nat.le_refl _)] at hys; exact hys, hJs⟩⟩

/-- unsafe's iterator, as a range over it asks. -/
theorem unsafe1_stops (n g bx : Nat) (hn : 1 ≤ n) (A : Option Addr) (c : Nat) (l : List Tn) (hl : l.length ≤ 1000000) (N : Nat) (hC : ∀ x ∈ l, Cst x ∧ x.n ≤ (N : Int)) (hbg : bx ≠ g) (w : World) (hg : g < w.heap.size) (hbx : bx < w.heap.size)
    (hc : w.cell? ⟨bx, 0, none⟩ = some (.slice A l.length c)) (hA : LdAt g w A l) :
    SeqStopsK Fence.wide n Try.prog 23 #[.pointer (some ⟨bx, 0, none⟩)] (fun b : Bn N => #[.int .i64 b.v]) (KpJ g) (fun xs => xs.map Bn.v = blL l) (fun _ => True) (2 * l.length) w := by
  intro y J Jx W hW hJ hJx hY h0
  have hk : KpJ g w W := KpJ.below hW
  exact unsafe1_in (fun S T w h1 h2 h3 h4 => Sides_any S T w h1 h2 h3 h4) n g bx y hn A c l hl N hC hbg J Jx W (Nat.lt_of_lt_of_le hg hk.1) hJ hY (hk.cell hbg hc) (hA.keep hk) h0
theorem unsafe_any (A : Option Addr) (n c : Nat) (w : World) : Calls Try.prog 16 #[.slice A n c] w fun e w' => e = .returned (.func (.func 23) #[] #[.pointer (some ⟨w.heap.size, 0, none⟩)]) ∧ w' = w.alloc (.cells #[.slice A n c] 33) := by
  have hmf : ∀ (fn : Fn) (first cap : Array Value) (w : World), (Instr.makeFunc fn first cap).run Try.prog w = .ok (.func fn first cap) w := fun _ _ _ _ => rfl
  go_enter Try.func16, Try.ntmps16
  go_wp2_with fail
  go_ret
  exact ⟨rfl, rfl⟩
end Go.Proofs.Ytjklecncdinabaa.J

/- Sites -/
namespace Go.Proofs.Ytjklecncdinabaa.La
open Go.RowKit Go.Proofs.Ytjklecncdinabaa.B

structure Site where
  mo : ByteArray
  ex : ByteArray
  li : Int
  co : Int
  ru : Int

def Site.vs (s : Site) : List Value := [.string s.mo, .string s.ex, .int .i64 s.li, .int .i64 s.co, .int .i64 s.ru]

/-- What came in fits its kinds. -/
structure Site.ok (s : Site) : Prop where
  mo : s.mo.size ≤ maxLen
  ex : s.ex.size ≤ maxLen
  l0 : -9223372036854775808 ≤ s.li
  l1 : s.li ≤ 9223372036854775807
  c0 : -9223372036854775808 ≤ s.co
  c1 : s.co ≤ 9223372036854775807
  r0 : -9223372036854775808 ≤ s.ru
  r1 : s.ru ≤ 9223372036854775807

def cells (l : List Site) : List Value := l.flatMap Site.vs

theorem cells_len (l : List Site) : (cells l).length = l.length * 5 := by
  induction l with
  | nil => rfl
  | cons s l ih => simp only [cells, List.flatMap_cons, List.length_append, List.length_cons] at *; rw [ih]; simp [Site.vs]; omega

theorem cells_at (l : List Site) : ∀ (k : Nat) (s : Site) (j : Nat), l[k]? = some s → j < 5 → (cells l)[k * 5 + j]? = s.vs[j]? := by
  induction l with
  | nil => intro k s j h; simp at h
  | cons x l ih =>
    intro k s j h hj
    have hl : x.vs.length = 5 := rfl
    cases k with
    | zero =>
      simp at h; subst h
      simp only [cells, List.flatMap_cons]
      rw [List.getElem?_append_left (by omega)]; simp
    | succ k =>
      simp at h
      have := ih k s j h hj
      simp only [cells, List.flatMap_cons] at *
      rw [List.getElem?_append_right (by omega)]
      rw [hl, show (k + 1) * 5 + j - 5 = k * 5 + j by omega]; exact this

/-- The cells of element k, in the spelling of the walk. -/
theorem site_cells {w : World} {B : Nat} {A : Option Addr} {l : List Site} (h : Sl w B 5 A l.length (cells l)) {k : Nat} {s : Site} (hk : l[k]? = some s) :
    ∃ b o, A = some ⟨b, o, none⟩ ∧ b < B ∧ w.cell? ⟨b, o + k * 5, none⟩ = some (.string s.mo) ∧ w.cell? ⟨b, o + k * 5 + 1, none⟩ = some (.string s.ex) ∧ w.cell? ⟨b, o + k * 5 + 2, none⟩ = some (.int .i64 s.li) ∧
      w.cell? ⟨b, o + k * 5 + 3, none⟩ = some (.int .i64 s.co) ∧ w.cell? ⟨b, o + k * 5 + 4, none⟩ = some (.int .i64 s.ru) := by
  have hl : k < l.length := (List.getElem?_eq_some_iff.1 hk).1
  obtain ⟨b, o, rfl, hb, hc⟩ := h.at_ (by omega)
  have g : ∀ j u, j < 5 → s.vs[j]? = some u → w.cell? ⟨b, o + k * 5 + j, none⟩ = some u := by
    intro j u hj hu
    have := hc (k * 5 + j) u (by rw [cells_at l k s j hk hj]; exact hu)
    rwa [← Nat.add_assoc] at this
  exact ⟨b, o, rfl, hb, g 0 _ (by omega) rfl, g 1 _ (by omega) rfl, g 2 _ (by omega) rfl, g 3 _ (by omega) rfl, g 4 _ (by omega) rfl⟩

/-- wide's count, up to element k. -/
def weigh (l : List Site) (k : Nat) : Nat := ((l.take k).map fun s => s.mo.size + s.ex.size).sum

end Go.Proofs.Ytjklecncdinabaa.La

/- LabA -/
namespace Go.Proofs.Ytjklecncdinabaa.La
open Go.RowKit Go.Proofs.Ytjklecncdinabaa.B
set_option linter.unusedVariables false
set_option linter.unusedSimpArgs false

/-- label.Side, as the Go text has it. -/
def sideL (b : Int) : Int := if 0 < b then b else if b = -9223372036854775808 then 0 else -b
def sideI (b : Int) : Bool := decide (0 < b)
def turn (b : Int) : Int := if b = -9223372036854775808 then 0 else -b

theorem ret2 {k l : Value} {k' l' : Value} (h : k = k') (h2 : l = l') : Ending.returned (.tuple #[k, l]) = .returned (.tuple #[k', l']) := by rw [h, h2]

theorem side_any (b : Int) (w : World) (h0 : -9223372036854775808 ≤ b) (h1 : b ≤ 9223372036854775807) :
    Calls Try.prog 35 #[.int .i64 b] w fun e w' => e = .returned (.tuple #[.int .i64 (sideL b), .bool (sideI b)]) ∧ w = w' := by
  unfold sideL sideI
  by_cases hp : 0 < b
  · go_enter Try.func35, Try.ntmps35
    go_wp2
    go_ret2
    simp [hp]
  · by_cases hm : b = -9223372036854775808
    · go_enter Try.func35, Try.ntmps35
      go_wp2
      go_ret2
      simp [hm]
    · have hm1 : -9223372036854775808 < b := by omega
      go_enter Try.func35, Try.ntmps35
      go_wp2
      go_ret2
      simp [hp, hm]

/-- The blank site, as values. -/
def blank : Array Value := #[.string ⟨#[]⟩, .string ⟨#[]⟩, .int .i64 0, .int .i64 0, .int .i64 0]

theorem of_no (l : List Site) (A : Option Addr) (c : Nat) (b : Int) (w : World) (h0 : -9223372036854775808 ≤ b) (h1 : b ≤ 9223372036854775807) (hl : l.length ≤ 9223372036854775807)
    (h : sideL b < 1 ∨ (l.length : Int) < sideL b) :
    Calls Try.prog 34 #[.slice A l.length c, .int .i64 b] w fun e w' => e = .returned (.tuple #[.agg blank, .int .i64 1]) ∧ Below w.heap.size w w' := by
  obtain ⟨n, hn⟩ : ∃ n, sideL b = n := ⟨_, rfl⟩
  have hs := side_any b (w.alloc (.cells blank 52)) h0 h1
  rw [hn] at hs h
  clear hn
  unfold blank at *
  by_cases h2 : n < 1
  · clear h
    go_enter Try.func34, Try.ntmps34
    go_wp2_with (go_at_call 35; refine hs.mono ?_; rintro e w' ⟨rfl, rfl⟩)
    refine bodyPost_ret (v := .tuple #[.agg #[.string ⟨#[]⟩, .string ⟨#[]⟩, .int .i64 0, .int .i64 0, .int .i64 0], .int .i64 1]) (by simp [results, Try.results34, go_sem]) rfl ⟨rfl, ?_⟩
    exact (Below.refl _ _).alloc (Nat.le_refl _) _
  · have h3 : (l.length : Int) < n := by omega
    clear h
    go_enter Try.func34, Try.ntmps34
    go_wp2_with (go_at_call 35; refine hs.mono ?_; rintro e w' ⟨rfl, rfl⟩)
    refine bodyPost_ret (v := .tuple #[.agg #[.string ⟨#[]⟩, .string ⟨#[]⟩, .int .i64 0, .int .i64 0, .int .i64 0], .int .i64 1]) (by simp [results, Try.results34, go_sem]) rfl ⟨rfl, ?_⟩
    exact (Below.refl _ _).alloc (Nat.le_refl _) _

theorem of_yes (l : List Site) (A : Option Addr) (c k : Nat) (s : Site) (b : Int) (w : World) (h0 : -9223372036854775808 ≤ b) (h1 : b ≤ 9223372036854775807) (hl : l.length ≤ 9223372036854775807)
    (hA : Sl w w.heap.size 5 A l.length (cells l)) (hk : sideL b = (k : Int) + 1) (hs : l[k]? = some s) :
    Calls Try.prog 34 #[.slice A l.length c, .int .i64 b] w fun e w' => e = .returned (.tuple #[.agg s.vs.toArray, .int .i64 0]) ∧ Below w.heap.size w w' := by
  have hlt : k < l.length := (List.getElem?_eq_some_iff.1 hs).1
  obtain ⟨bb, o, rfl, hb, c0, c1, c2, c3, c4⟩ := site_cells hA hs
  have hs := side_any b (w.alloc (.cells blank 52)) h0 h1
  rw [hk] at hs
  clear hk hA
  unfold blank Site.vs at *
  go_enter Try.func34, Try.ntmps34
  go_wp2_with (go_at_call 35; refine hs.mono ?_; rintro e w' ⟨rfl, rfl⟩)
  refine bodyPost_ret (v := .tuple #[.agg #[.string s.mo, .string s.ex, .int .i64 s.li, .int .i64 s.co, .int .i64 s.ru], .int .i64 0]) (by simp [results, Try.results34, go_sem]) rfl ⟨rfl, ?_⟩
  exact (Below.refl _ _).alloc (Nat.le_refl _) _

/-- label.named -/
def nameOf (s : Site) (i : Bool) : ByteArray := if s.ru = 18 ∧ i = true then s.ex else s.mo

theorem named_any (s : Site) (i : Bool) (w : World) :
    Calls Try.prog 36 #[.agg s.vs.toArray, .bool i] w fun e w' => e = .returned (.string (nameOf s i)) ∧ Below w.heap.size w w' := by
  unfold nameOf Site.vs
  by_cases h : s.ru = 18
  · obtain ⟨mo, ex, li, co, ru⟩ := s
    simp only at h
    subst h
    cases i
    · go_enter Try.func36, Try.ntmps36
      go_wp2
      go_ret
      exact ⟨rfl, (Below.refl _ _).alloc (Nat.le_refl _) _⟩
    · go_enter Try.func36, Try.ntmps36
      go_wp2
      go_goals
      go_ways
      go_ret
      exact ⟨rfl, (Below.refl _ _).alloc (Nat.le_refl _) _⟩
  · go_enter Try.func36, Try.ntmps36
    go_wp2
    go_ret
    exact ⟨by simp [h], (Below.refl _ _).alloc (Nat.le_refl _) _⟩

theorem named_no (l : List Site) (A : Option Addr) (c : Nat) (b : Int) (w : World) (h0 : -9223372036854775808 ≤ b) (h1 : b ≤ 9223372036854775807) (hl : l.length ≤ 9223372036854775807)
    (h : sideL b < 1 ∨ (l.length : Int) < sideL b) :
    Calls Try.prog 22 #[.slice A l.length c, .int .i64 b] w fun e w' => e = .returned (.tuple #[.string ⟨#[]⟩, .int .i64 1]) ∧ Below w.heap.size w w' := by
  have ho := of_no l A c b w h0 h1 hl h
  clear h
  unfold blank at ho
  go_enter Try.func22, Try.ntmps22
  go_wp2_with (go_at_call 34; refine ho.mono ?_; rintro e w1 ⟨rfl, hb⟩)
  go_ret2
  exact ⟨rfl, hb.alloc hb.size _⟩

theorem named_yes (l : List Site) (A : Option Addr) (c k : Nat) (s : Site) (b : Int) (w : World) (h0 : -9223372036854775808 ≤ b) (h1 : b ≤ 9223372036854775807) (hl : l.length ≤ 9223372036854775807)
    (hA : Sl w w.heap.size 5 A l.length (cells l)) (hk : sideL b = (k : Int) + 1) (hs : l[k]? = some s) :
    Calls Try.prog 22 #[.slice A l.length c, .int .i64 b] w fun e w' => e = .returned (.tuple #[.string (nameOf s (sideI b)), .int .i64 0]) ∧ Below w.heap.size w w' := by
  have ho := of_yes l A c k s b w h0 h1 hl hA hk hs
  have hn := fun W => named_any s (sideI b) W
  clear hA hk hs
  unfold Site.vs at *
  go_enter Try.func22, Try.ntmps22
  go_wp2_with (first
    | (go_at_call 34; refine ho.mono ?_; rintro e w1 ⟨rfl, hb⟩)
    | (go_at_call 35; refine (side_any b _ h0 h1).mono ?_; rintro e w' ⟨rfl, rfl⟩)
    | (go_at_call 36; refine (hn _).mono ?_; rintro e w2 ⟨rfl, hb2⟩))
  go_ret2
  exact ⟨rfl, (hb.alloc hb.size _).trans (hb2.mono (by have := hb.size; simp; omega))⟩

theorem info31 : (Try.prog.info? 52).map (fun i => (i.zero, i.size, i.bytes)) = some (some (.agg blank), 5, 56) := by kernel_rfl

end Go.Proofs.Ytjklecncdinabaa.La
