/- Parts of this claim: CfC, BgZ, BgL, BagS. -/
import Derived.Test.YtobplngonkdbpaaGreatDoorP10
import Derived.Test.YtobplngonkdbpaaGreatDoorP01
set_option linter.unusedVariables false
set_option linter.unusedSimpArgs false
/- CfC -/
namespace Go.Proofs.YtobplngonkdbpaaGreatDoor.D
open Go.RowKit
open Go.Proofs.YtobplngonkdbpaaGreatDoor.B
set_option linter.unusedVariables false
set_option linter.unusedSimpArgs false
/-- A row of one element, just made. -/
theorem Sl.fresh (w : World) (xs : List Value) (sz : Nat) (T : TypeId) (h : xs.length = sz) : Sl (w.alloc (.cells xs.toArray T)) (w.heap.size + 1) sz (some ⟨w.heap.size, 0, none⟩) 1 xs := by
 refine ⟨by omega, .inr ⟨w.heap.size, 0, rfl, by simp, fun j u hu => ?_⟩⟩
 rw [Nat.zero_add, World.cell?_alloc_new]
 simpa using hu
theorem lt_same {W W' : World} {b : Nat} (h : W'.heap[b]? = W.heap[b]?) (hb : b < W.heap.size) : b < W'.heap.size := by
 rw [Array.getElem?_eq_getElem hb] at h
 exact (Array.getElem?_eq_some_iff.1 h).1
theorem allV_snoc {α : Type} (f : Bs -> Option α) (x : Bs) : ∀ l : List Bs, allV f (l ++ [x]) = (match allV f l, f x with | some a, some b => some (a ++ [b]) | _, _ => none)
 | [] => by
  rw [List.nil_append, allV, allV]
  rcases f x with _ | b <;> rfl
 | w :: l => by
  rw [List.cons_append, allV, allV, allV_snoc f x l]
  rcases f w with _ | a
  · rfl
  ·
   rcases allV f l with _ | q
   · rfl
   · rcases f x with _ | b <;> rfl
theorem allV_is {α : Type} (f : Bs -> Option α) (x : Bs) (l : List Bs) : (allV f (l ++ [x])).isSome = ((allV f l).isSome && (f x).isSome) := by
 rw [allV_snoc]
 rcases allV f l with _ | a <;> rcases f x with _ | b <;> rfl
theorem allV_last {α : Type} {f : Bs -> Option α} {x : Bs} {l : List Bs} {q : List α} (h : allV f (l ++ [x]) = some q) : ∃ a b, allV f l = some a /\ f x = some b /\ q = a ++ [b] := by
 rw [allV_snoc] at h
 rcases h1 : allV f l with _ | a
 · rw [h1] at h; cases h
 rcases h2 : f x with _ | b
 · rw [h1, h2] at h; cases h
 rw [h1, h2] at h
 injection h with h
 exact ⟨a, b, rfl, rfl, h.symm⟩
noncomputable def castIt (f t : Bs) (cs : List Bs) : Option Item := match unq f, unq t, allV ndV cs with
 | some f, some t, some l => some (.cast f t l)
 | _, _, _ => none
theorem castIt_is (f t : Bs) (cs : List Bs) : (castIt f t cs).isSome = ((unq f).isSome && (unq t).isSome && (allV ndV cs).isSome) := by
 unfold castIt
 rcases unq f with _ | a <;> rcases unq t with _ | b <;> rcases allV ndV cs with _ | l <;> rfl
theorem castIt_some {f t f' t' : Bs} {cs : List Bs} {D : List Nd} (hf : ∀ v, unq f = some v -> f' = v) (ht : ∀ v, unq t = some v -> t' = v) (hd : ∀ l, allV ndV cs = some l -> D = l) (i : Item) (h : castIt f t cs = some i) : i = .cast f' t' D := by
 unfold castIt at h
 rcases h1 : unq f with _ | a
 · rw [h1] at h; cases h
 rcases h2 : unq t with _ | b
 · rw [h1, h2] at h; cases h
 rcases h3 : allV ndV cs with _ | l
 · rw [h1, h2, h3] at h; cases h
 rw [h1, h2, h3] at h
 injection h with h
 rw [<- h, hf a h1, ht b h2, hd l h3]
section
variable {w w3 w4 : World} {r st B b : Nat} {L : CoL} {V V' : Value} {f t : Bs} {D : List Nd} {E : List Bs}
theorem RAt.cast (h : RAt w3 r L st) (hx : w3.ownsRow b 86 7 V D.length (cosC D)) (hb : r + 1 <= b) (hf : ∀ x ∈ L.rws, Ap x.v V) (ht : Tch w3 w4 L.cv.ownBlock V'.ownBlock)
  (ho : w4.ownsRow (r + 1) 84 3 V' (L.casts.length + 1) (L.casts.flatMap WtL.cells ++ [strV f, strV t, V])) :
  RAt (w4.setCell ⟨r, 1, none⟩ V') r { L with casts := L.casts ++ [⟨⟨f, t, D⟩, V⟩], cv := V' } st := by
 have h1 : Own w3 (r + 1) (L.rws ++ [] ) := by rw [List.append_nil]; exact h.own
 have h2 := h1.add (r := ⟨86, 7, V, D.length, cosC D⟩) (own_base hx hb) (fun x hx => hf x (by rcases hx with hx | hx; exact hx; cases hx))
 have h3 : Own w4 (r + 1) ([rowF L] ++ rowC { L with casts := L.casts ++ [⟨⟨f, t, D⟩, V⟩], cv := V' } :: (rowN L :: rowT L :: rowY L :: (rowR L ++ [⟨86, 7, V, D.length, cosC D⟩]))) := by
  refine Own.touch (w := w3) (r := rowC L) ?_ ht (by simpa [rowC, WtL.cells] using ho)
  simpa [rws_eq] using h2
 refine ⟨(h.far (rowC_in L) ht).set_ 1 V', ?_⟩
 refine RAt.low ?_ 1 V'
 have e : CoL.rws { L with casts := L.casts ++ [⟨⟨f, t, D⟩, V⟩], cv := V' } = [rowF L] ++ rowC { L with casts := L.casts ++ [⟨⟨f, t, D⟩, V⟩], cv := V' } :: (rowN L :: rowT L :: rowY L :: (rowR L ++ [⟨86, 7, V, D.length, cosC D⟩])) := by
  rw [rws_eq]; simp [rowF, rowN, rowT, rowY, rowR, WtL.rw]
 rw [e]; exact h3
theorem RAt.func (h : RAt w3 r L st) (hx : w3.ownsRow b 9 1 V E.length (envC E)) (hb : r + 1 <= b) (hf : ∀ x ∈ L.rws, Ap x.v V) (ht : Tch w3 w4 L.fv.ownBlock V'.ownBlock)
  (ho : w4.ownsRow (r + 1) 90 4 V' (L.fns.length + 1) (L.fns.flatMap FuL.cells ++ [V, strV f, strV t, .slice none 0 0])) :
  RAt (w4.setCell ⟨r, 0, none⟩ V') r { L with fns := L.fns ++ [⟨V, ⟨E, f, t, []⟩, .slice none 0 0⟩], fv := V' } st := by
 obtain ⟨Z, hZ⟩ : ∃ Z, [rowF L, rowC L, rowN L, rowT L, rowY L] ++ L.fns.flatMap FuL.rws = Z := ⟨_, rfl⟩
 have h0 : Own w3 (r + 1) (Z ++ L.casts.map WtL.rw) := by rw [<- hZ]; simpa [rws_eq, rowR] using h.own
 have hz : ∀ x, x ∈ Z \/ x ∈ L.casts.map WtL.rw -> x ∈ L.rws := by
  intro x hx
  rw [<- hZ] at hx
  rw [rws_eq]
  simpa [rowR, or_assoc] using hx
 have h2 := h0.add (r := ⟨9, 1, V, E.length, envC E⟩) (own_base hx hb) (fun x hx => hf x (hz x hx))
 have h2' : Own w3 (r + 1) ((Z ++ [⟨9, 1, V, E.length, envC E⟩]) ++ L.casts.map WtL.rw) := by simpa using h2
 have h22 := h2'.add (r := ⟨92, 3, .slice none 0 0, 0, []⟩) (World.ownsRow_nil _ _ _ _) (fun x hx => (Ap.nil x.v).symm)
 have h3 : Own w4 (r + 1) ([] ++ rowF { L with fns := L.fns ++ [⟨V, ⟨E, f, t, []⟩, .slice none 0 0⟩], fv := V' } :: (rowC L :: rowN L :: rowT L :: rowY L :: (L.fns.flatMap FuL.rws ++ ⟨9, 1, V, E.length, envC E⟩ :: ⟨92, 3, .slice none 0 0, 0, []⟩ :: L.casts.map WtL.rw))) := by
  refine Own.touch (w := w3) (r := rowF L) ?_ ht (by simpa [rowF, FuL.cells] using ho)
  rw [<- hZ] at h22
  simpa using h22
 refine ⟨(h.far (rowF_in L) ht).set_ 0 V', ?_⟩
 refine RAt.low ?_ 0 V'
 have e : CoL.rws { L with fns := L.fns ++ [⟨V, ⟨E, f, t, []⟩, .slice none 0 0⟩], fv := V' } = [] ++ rowF { L with fns := L.fns ++ [⟨V, ⟨E, f, t, []⟩, .slice none 0 0⟩], fv := V' } :: (rowC L :: rowN L :: rowT L :: rowY L :: (L.fns.flatMap FuL.rws ++ ⟨9, 1, V, E.length, envC E⟩ :: ⟨92, 3, .slice none 0 0, 0, []⟩ :: L.casts.map WtL.rw)) := by
  rw [rws_eq]; simp [rowC, rowN, rowT, rowY, rowR, FuL.rws, codC]
 rw [e]; exact h3
end
end Go.Proofs.YtobplngonkdbpaaGreatDoor.D
/- BgZ -/
namespace Go.Proofs.YtobplngonkdbpaaGreatDoor.B
open Go.RowKit
set_option linter.unusedSimpArgs false
set_option linter.unusedVariables false
theorem mark_cell {w : World} {sz n c : Nat} {A : Option Addr} {M : Nat -> List Value} (hM : ∀ i, (M i).length = sz) (h : Rd w sz (.slice A n c) n (mks M n)) {i : Nat} (hi : i < n) :
  ∃ b, A = some ⟨b, 0, none⟩ /\ b < w.heap.size /\ ∀ j v, (M i)[j]? = some v -> w.cell? ⟨b, i * sz + j, none⟩ = some v := by
 have g : ∀ j u, (M i)[j]? = some u -> (mks M n)[i * sz + j]? = some u := fun j u hu => by
  have hj : j < sz := by rw [<- hM i]; exact (List.getElem?_eq_some_iff.1 hu).1
  rw [mks_at hM hi hj]; exact hu
 obtain ⟨A', c', e, _, _, _, hlt, h5⟩ := h
 injection e with e1 e2 e3
 subst e1 e3
 rcases h5 with h5 | ⟨b, rfl, h5⟩
 · omega
 · exact ⟨b, rfl, hlt b rfl, fun j v hv => h5 _ _ (g j v hv)⟩
def set3 (w : World) (g : Nat) (u0 u1 u2 : Value) : World := (((w.setCell ⟨g, 0, none⟩ u0).setCell ⟨g, 1, none⟩ u1).setCell ⟨g, 2, none⟩ u2)
theorem blk_set3 {w : World} {g : Nat} {t : TypeId} {v0 v1 v2 : Value} (h : Blk w g t #[v0, v1, v2]) (u0 u1 u2 : Value) : Blk (B.set3 w g u0 u1 u2) g t #[u0, u1, u2] := by
 unfold Blk at h ⊢
 simp [B.set3, World.setCell, Array.getElem?_modify, h]
theorem below_set3 {B0 : Nat} {a w : World} (h : Below B0 a w) {g : Nat} (hg : B0 <= g) (u0 u1 u2 : Value) : Below B0 a (B.set3 w g u0 u1 u2) := below_set (below_set (below_set (h) hg u0) hg u1) hg u2
theorem blk_cells3 {w : World} {g : Nat} {t : TypeId} {u0 u1 u2 : Value} (h : Blk w g t #[u0, u1, u2]) : w.cell? ⟨g, 0, none⟩ = some u0 /\ w.cell? ⟨g, 1, none⟩ = some u1 /\ w.cell? ⟨g, 2, none⟩ = some u2 := ⟨h.cell 0, h.cell 1, h.cell 2⟩
def set4 (w : World) (g : Nat) (u0 u1 u2 u3 : Value) : World := ((((w.setCell ⟨g, 0, none⟩ u0).setCell ⟨g, 1, none⟩ u1).setCell ⟨g, 2, none⟩ u2).setCell ⟨g, 3, none⟩ u3)
theorem blk_set4 {w : World} {g : Nat} {t : TypeId} {v0 v1 v2 v3 : Value} (h : Blk w g t #[v0, v1, v2, v3]) (u0 u1 u2 u3 : Value) : Blk (B.set4 w g u0 u1 u2 u3) g t #[u0, u1, u2, u3] := by
 unfold Blk at h ⊢
 simp [B.set4, World.setCell, Array.getElem?_modify, h]
theorem below_set4 {B0 : Nat} {a w : World} (h : Below B0 a w) {g : Nat} (hg : B0 <= g) (u0 u1 u2 u3 : Value) : Below B0 a (B.set4 w g u0 u1 u2 u3) := below_set (below_set (below_set (below_set (h) hg u0) hg u1) hg u2) hg u3
theorem blk_cells4 {w : World} {g : Nat} {t : TypeId} {u0 u1 u2 u3 : Value} (h : Blk w g t #[u0, u1, u2, u3]) : w.cell? ⟨g, 0, none⟩ = some u0 /\ w.cell? ⟨g, 1, none⟩ = some u1 /\ w.cell? ⟨g, 2, none⟩ = some u2 /\ w.cell? ⟨g, 3, none⟩ = some u3 := ⟨h.cell 0, h.cell 1, h.cell 2, h.cell 3⟩
def set7 (w : World) (g : Nat) (u0 u1 u2 u3 u4 u5 u6 : Value) : World := (((((((w.setCell ⟨g, 0, none⟩ u0).setCell ⟨g, 1, none⟩ u1).setCell ⟨g, 2, none⟩ u2).setCell ⟨g, 3, none⟩ u3).setCell ⟨g, 4, none⟩ u4).setCell ⟨g, 5, none⟩ u5).setCell ⟨g, 6, none⟩ u6)
theorem blk_set7 {w : World} {g : Nat} {t : TypeId} {v0 v1 v2 v3 v4 v5 v6 : Value} (h : Blk w g t #[v0, v1, v2, v3, v4, v5, v6]) (u0 u1 u2 u3 u4 u5 u6 : Value) : Blk (B.set7 w g u0 u1 u2 u3 u4 u5 u6) g t #[u0, u1, u2, u3, u4, u5, u6] := by
 unfold Blk at h ⊢
 simp [B.set7, World.setCell, Array.getElem?_modify, h]
theorem below_set7 {B0 : Nat} {a w : World} (h : Below B0 a w) {g : Nat} (hg : B0 <= g) (u0 u1 u2 u3 u4 u5 u6 : Value) : Below B0 a (B.set7 w g u0 u1 u2 u3 u4 u5 u6) := below_set (below_set (below_set (below_set (below_set (below_set (below_set (h) hg u0) hg u1) hg u2) hg u3) hg u4) hg u5) hg u6
theorem blk_cells7 {w : World} {g : Nat} {t : TypeId} {u0 u1 u2 u3 u4 u5 u6 : Value} (h : Blk w g t #[u0, u1, u2, u3, u4, u5, u6]) : w.cell? ⟨g, 0, none⟩ = some u0 /\ w.cell? ⟨g, 1, none⟩ = some u1 /\ w.cell? ⟨g, 2, none⟩ = some u2 /\ w.cell? ⟨g, 3, none⟩ = some u3 /\ w.cell? ⟨g, 4, none⟩ = some u4 /\ w.cell? ⟨g, 5, none⟩ = some u5 /\ w.cell? ⟨g, 6, none⟩ = some u6 := ⟨h.cell 0, h.cell 1, h.cell 2, h.cell 3, h.cell 4, h.cell 5, h.cell 6⟩
end Go.Proofs.YtobplngonkdbpaaGreatDoor.B
/- BgL -/
namespace Go.Proofs.YtobplngonkdbpaaGreatDoor.B
open Go.RowKit
set_option linter.unusedSimpArgs false
set_option linter.unusedVariables false
theorem infoELongs : (Tryz.prog.info? 2).map (fun i => (i.zero, i.size, i.bytes)) = some (some (.int .i64 0), 1, 8) := by kernel_rfl
theorem infoLLongs : (Tryz.prog.info? 24).map (fun i => (i.zero, i.size, i.bytes)) = some (some (.slice none 0 0), 1, 24) := by kernel_rfl
def markL (n i : Nat) : List Value := [.int .i64 (1048576 * (n : Int) + i + 1)]
theorem markL_len (n i : Nat) : (markL n i).length = 1 := rfl
set_option maxRecDepth 100000 in
set_option maxHeartbeats 2000000 in
theorem apartLongs_any (gb base K : Nat) (ob oc : Nat) (vs : Nat -> Value) (ns : Nat -> Nat) (w : World) (hS : Shelfed gb 2 K w ob oc vs w) (hg : gb < w.heap.size) (hob : ob < w.heap.size)
  (h1 : ∀ m, m < K -> (vs m).ownBlock ≠ some gb) (h2 : ∀ m, m < K -> (vs m).ownBlock ≠ some ob) (hv : ∀ m, m < K -> ∃ xs, w.ownsRow base 2 1 (vs m) (ns m) xs) (hap : ∀ i j, i < K -> j < K -> i ≠ j -> Ap (vs i) (vs j))
  (hbs : base <= w.heap.size) (hK : K <= 300) (hns : ∀ m, m < K -> ns m <= 1099511627776) :
  Calls Tryz.prog 63 #[.pointer (some ⟨gb, 0, none⟩)] w fun e w' => e = .returned (.bool true) /\ But (fun k => ∃ m, m < K /\ (vs m).ownBlock = some k) w w' := by
 have HS := Lib.hid fun (W : World) (hb : But (fun k => ∃ m, m < K /\ (vs m).ownBlock = some k) w W) => shelfed_but hS hg hob h1 h2 hb
 have HM := Lib.hid (B1.start (M := markL) hv)
 have HNS := Lib.hid hns
 have HAP := Lib.hid hap
 have hLT : ∀ m, m < K -> ∀ b, (vs m).ownBlock = some b -> b < w.heap.size := fun m hm b hb => by
  obtain ⟨xs, hx⟩ := hv m hm; exact (hx.lt b hb).2
 have HLT := Lib.hid hLT
 have hc0 := hS.c
 clear hv hap h1 h2 hS hns hLT
 go_enter Tryz.func63, Tryz.ntmps63
 go_wp2_with fail
 go_loopg [3] K (fun q i wr => ∃ k : Nat, k <= K /\ q = K - k /\ i = .int .i64 k /\ B1 base 2 1 K vs ns markL w wr k 0)
 case atStart => exact ⟨0, by omega, rfl, rfl, HM.out⟩
 case round =>
  obtain ⟨k, hk, rfl, rfl, hB⟩ := hrel
  obtain ⟨sc, se⟩ := HS.out _ hB.but
  by_cases hkK : k < K
  ·
   obtain ⟨A, c, hv, hnc, hcm, hat⟩ := hB.at_ hkK
   have se1 := se k hkK
   rw [hv] at se1
   have HB := Lib.hid hB
   have hn := HNS.out k hkK
   clear hat se hB
   obtain ⟨nk, hnk⟩ : ∃ n, ns k = n := ⟨_, rfl⟩
   rw [hnk] at hv hnc hn se1
   have HV := Lib.hid hv
   have HN := Lib.hid hnk
   clear hv hnk
   go_wp2_with fail
   go_loopg [4] nk (fun q i wr => ∃ j : Nat, j <= nk /\ q = nk - j /\ i = .int .i64 j /\ B1 base 2 1 K vs ns markL w wr k j)
   case atStart => exact ⟨0, by omega, rfl, rfl, HB.out⟩
   case round =>
    obtain ⟨j, hj, rfl, rfl, hB⟩ := hrel
    obtain ⟨sc, se⟩ := HS.out _ hB.but
    have se1 := se k hkK
    rw [HV.out] at se1
    by_cases hjn : j < nk
    ·
     obtain ⟨A', c', hv', _, _, hat⟩ := hB.at_ hkK
     have hnk := HN.out
     obtain ⟨g, hA, hbg, hgw, hth⟩ := hat (by omega)
     rw [HV.out] at hv'
     injection hv' with e1 e2 e3
     subst e1 e3 hA
     obtain ⟨t1, t2⟩ := hth 0 (by omega)
     rw [Nat.mul_one, Nat.add_zero] at t1 t2
     obtain ⟨old, t1⟩ := Option.isSome_iff_exists.1 t1
     have hnum := fun W => (bnum_any k j W (by omega) (by omega) (by omega) (by omega))
     have HB2 := Lib.hid hB
     clear hB hth se hat hnk e2
     go_wp2_with fail
     go_region_with (go_at_call 90; refine (hnum _).mono ?_; rintro e w' ⟨rfl, rfl⟩)
     all_goals
      go_wp2_with fail
      go_roundg (nk - (j + 1))
      case measure => omega
      case rel => exact ⟨j + 1, by omega, rfl, by go_num, (HB2.out.mark1 markL_len hkK (by rw [HN.out]; exact hjn) HAP.out HV.out rfl).drew⟩
    ·
     obtain rfl : j = nk := by omega
     have HB2 := Lib.hid hB
     clear hB se
     go_wp2_with fail
     go_roundg (K - (k + 1))
     case measure => omega
     case rel => exact ⟨k + 1, by omega, rfl, by go_num, by have := HB2.out; rw [<- HN.out] at this; exact this.next⟩
  ·
   obtain rfl : K = k := by omega
   have HB2 := Lib.hid (hB.done (T1 := 24) hB.but.size)
   clear hB se hc0 HM
   go_wp2_with fail
   go_loopg [5, 6, 7] K (fun q a b i wr => ∃ n : Nat, n <= K /\ q = K - n /\ i = .int .i64 n /\ ∃ one more os ms, one = a /\ more = b /\ B2 base 24 2 1 K vs ns markL w wr n n n one more os ms)
   case atStart => exact ⟨0, by omega, rfl, rfl, _, _, [], [], rfl, rfl, HB2.out⟩
   clear HB2
   case round =>
    obtain ⟨n, hn, rfl, rfl, one, more, os, ms, rfl, rfl, hB⟩ := hrel
    obtain ⟨sc, se⟩ := HS.out _ hB.but
    by_cases hnK : n < K
    ·
     obtain ⟨A, c, hv, hnc, hcm⟩ := (hB.v n hnK).form
     have se1 := se n hnK
     have HV := Lib.hid hv
     rw [hv] at se1
     have hlen := HNS.out n hnK
     have HL0 := Lib.hid (BL.start hB hnK HLT.out HAP.out)
     have HB0 := Lib.hid hB.enter
     rw [hv] at HL0
     clear hv hB se
     go_wp2_with fail
     go_loopg [5, 8, 9] 70 (fun q a b i wr => ∃ j : Nat, j <= 70 /\ q = 70 - j /\ i = .int .i64 (ns n + j : Nat) /\ ∃ one l p os, one = a /\ l = b /\ Hid (p = n /\ j = 0 \/ p = n + 1 /\ 0 < j) /\
      B2 base 24 2 1 K vs ns markL w wr n p (n + 1) one more os ms /\ BL base 2 1 K vs ns markL w wr n j l one more os ms)
     case atStart => exact ⟨0, by omega, rfl, by go_num, _, _, n, os, rfl, rfl, Lib.hid (.inl ⟨rfl, rfl⟩), HB0.out, HL0.out⟩
     clear HB0 HL0
     case round =>
      obtain ⟨j, hj, rfl, rfl, one, l, p, os, rfl, rfl, HP, hB, hL⟩ := hrel
      obtain ⟨sc, se⟩ := HS.out _ hB.but
      have se1 := se n hnK
      rw [HV.out] at se1
      by_cases hj70 : j < 70
      ·
       obtain ⟨Al, cl, rfl, hl1, hl2⟩ := own_shape hL.own
       have hnum := fun W => (bnum_any n (ns n + j : Nat) W (by omega) (by omega) (by omega) (by omega))
       have hxj : ((ns n + j : Nat) : Int) = (ns n : Int) + j := by omega
       rw [hxj] at hnum
       have HBl := Lib.hid hL
       have HBb := Lib.hid hB
       have hsz := hB.but.size
       clear hB hL se
       obtain ⟨i0, hi0, hz0, hz1, hz2⟩ := info_parts3 infoELongs
       go_wp2_with fail
       refine (hnum _).mono ?_
       rintro e w' ⟨rfl, rfl⟩
       have hBa := HBl.out.grow (Below.alloc (Below.refl _ _) (Nat.le_refl _) (.cells #[.int .i64 (1048576 * (n : Int) + ((ns n : Int) + j) + 1)] 2))
       have HBc := Lib.hid (HBb.out.grow (Below.alloc (Below.refl _ _) (Nat.le_refl _) (.cells #[.int .i64 (1048576 * (n : Int) + ((ns n : Int) + j) + 1)] 2)))
       have hown0 := hBa.own
       have HBd := Lib.hid hBa
       have hbase : base <= (wr.alloc (.cells #[.int .i64 (1048576 * (n : Int) + ((ns n : Int) + j) + 1)] 2)).heap.size := by
        simp; omega
       clear hBa
       go_wp2_with (at_builtin; refine wpList_append_fine _ rfl (.tmp 78) (.tmp 82) 24 rfl base 2 i0 _ 1 8 Tryz.underlying24 hi0 hz0 hz1 hz2 rfl _ (ns n + j) _ rfl hown0 (wr.heap.size + 1) _ 1 1 [.int .i64 (1048576 * (n : Int) + ((ns n : Int) + j) + 1)] rfl (Sl.one _ _ _) ?_ ?_ ?_ ?_ ?_ ?_)
       · intro u hu; simp at hu; subst hu; rfl
       · omega
       · unfold maxLen; omega
       · omega
       · exact hbase
       intro l1 w1 hown1 ht1
       have hmk : markL n (ns n + j) = [.int .i64 (1048576 * (n : Int) + ((ns n : Int) + j) + 1)] := by unfold markL; rw [hxj]
       rw [<- hmk] at hown1
       have hrow := HBc.out.onRow HBd.out hnK (HP.out.imp And.left id) (by omega) hown1 ht1 (by simp; omega)
       obtain ⟨Al1, cl1, rfl, hl3, hl4⟩ := own_shape hown1
       obtain ⟨sc1, se1'⟩ := HS.out _ hrow.1.but
       have se2 := se1' n hnK
       rw [HV.out] at se2
       have hsz1 := hrow.1.but.size
       by_cases hj0 : j = 0
       ·
        subst hj0
        obtain ⟨rfl, _⟩ : p = n /\ 0 = 0 := by rcases HP.out with h | h; exact h; omega
        obtain ⟨i1, hi1, hy0, hy1, hy2⟩ := info_parts3 infoLLongs
        obtain ⟨Ao, co, rfl, ho1, ho2⟩ := own_shape hrow.1.hone
        have hgr : Below w1.heap.size w1 (w1.alloc (.cells #[.slice Al1 (ns p + 0 + 1) cl1] 24)) := Below.alloc (Below.refl _ _) (Nat.le_refl _) _
        have HB1 := Lib.hid (hrow.1.grow hgr)
        have HL1 := Lib.hid ((hrow.2.1 rfl).grow hgr)
        have hone1 := HB1.out.hone
        clear hrow se1' hown1 ht1 HBc HBd HBl HBb hmk hown0 hgr
        have s1 : ∀ u ∈ [Value.slice Al1 (ns p + 0 + 1) cl1], u.oneCell' = true := by intro u hu; simp at hu; subst hu; rfl
        have s2 : p + 1 <= maxLen := by unfold maxLen; omega
        have s3 : (p + 1) * 24 <= 140737488355328 := by omega
        have s4 : w.heap.size <= (w1.alloc (.cells #[.slice Al1 (ns p + 0 + 1) cl1] 24)).heap.size := by simp; omega
        have S1 := Lib.hid s1
        clear s1
        go_wp2_with (at_builtin; refine wpList_append_fine _ rfl (.tmp 94) (.tmp 96) 42 rfl w.heap.size 24 i1 _ 1 24 Tryz.underlying42 hi1 hy0 hy1 hy2 rfl _ p _ rfl hone1 (w1.heap.size + 1) _ 1 1 [.slice Al1 (ns p + 0 + 1) cl1] rfl (Sl.one _ _ _) S1.out Nat.one_pos s2 s3 s4 ?_)
        clear s2 s3 s4 S1
        intro o1 w2 hown2 ht2
        have hfin := HB1.out.onOne HL1.out hnK HLT.out hown2 ht2
        have HF := Lib.hid hfin
        clear hfin hown2 ht2 hone1
        go_wp2_with fail
        go_roundg (70 - (0 + 1))
        case measure => omega
        case rel => exact ⟨0 + 1, by omega, rfl, by go_num, o1, .slice Al1 (ns p + 0 + 1) cl1, p + 1, _, rfl, rfl, Lib.hid (.inr ⟨rfl, by omega⟩), HF.out.1, HF.out.2⟩
       ·
        obtain ⟨rfl, hj1⟩ : p = n + 1 /\ 0 < j := by rcases HP.out with h | h; omega; exact h
        have HF := Lib.hid (And.intro hrow.1 (hrow.2.2 rfl))
        clear hrow se1' hown1 ht1 HBc HBd HBl HBb hmk hown0
        go_wp2_with fail
        go_roundg (70 - (j + 1))
        case measure => omega
        case rel => exact ⟨j + 1, by omega, rfl, by go_num, one, .slice Al1 (ns n + j + 1) cl1, n + 1, os, rfl, rfl, Lib.hid (.inr ⟨rfl, by omega⟩), HF.out.1, HF.out.2⟩
      ·
       obtain rfl : j = 70 := by omega
       obtain rfl : p = n + 1 := by rcases HP.out with h | h; omega; exact h.1
       obtain ⟨i1, hi1, hy0, hy1, hy2⟩ := info_parts3 infoLLongs
       obtain ⟨Al, cl, rfl, hl1, hl2⟩ := own_shape hL.own
       obtain ⟨Am, cm, rfl, hm1, hm2⟩ := own_shape hB.hmore
       have hgr : Below wr.heap.size wr (wr.alloc (.cells #[.slice Al (ns n + 70) cl] 24)) := Below.alloc (Below.refl _ _) (Nat.le_refl _) _
       have HB1 := Lib.hid (hB.grow hgr)
       have HL1 := Lib.hid (hL.grow hgr)
       have hmore1 := HB1.out.hmore
       have hsz1 := hB.but.size
       have s1 : ∀ u ∈ [Value.slice Al (ns n + 70) cl], u.oneCell' = true := by intro u hu; simp at hu; subst hu; rfl
       have s2 : n + 1 <= maxLen := by unfold maxLen; omega
       have s3 : (n + 1) * 24 <= 140737488355328 := by omega
       have s4 : w.heap.size <= (wr.alloc (.cells #[.slice Al (ns n + 70) cl] 24)).heap.size := by simp; omega
       have S1 := Lib.hid s1
       clear s1 hB hL se hgr
       go_wp2_with (at_builtin; refine wpList_append_fine _ rfl (.tmp 98) (.tmp 100) 42 rfl w.heap.size 24 i1 _ 1 24 Tryz.underlying42 hi1 hy0 hy1 hy2 rfl _ n _ rfl hmore1 (wr.heap.size + 1) _ 1 1 [.slice Al (ns n + 70) cl] rfl (Sl.one _ _ _) S1.out Nat.one_pos s2 s3 s4 ?_)
       clear s2 s3 s4 S1
       intro o1 w2 hown2 ht2
       have HF := Lib.hid (HB1.out.onMore HL1.out hnK HLT.out hown2 ht2)
       clear hown2 ht2 hmore1
       go_wp2_with fail
       go_roundg (K - (n + 1))
       case measure => omega
       case rel => exact ⟨n + 1, by omega, rfl, by go_num, one, o1, os, _, rfl, rfl, HF.out⟩
    ·
     obtain rfl : K = n := by omega
     obtain ⟨Am, cm, rfl, hm1, hm2⟩ := own_shape hB.hmore
     obtain ⟨Ao, co, rfl, ho1, ho2⟩ := own_shape hB.hone
     have HB := Lib.hid hB
     have HBut := Lib.hid hB.but
     have HM := Lib.hid (Rd.of_own hB.hmore)
     have HO := Lib.hid (Rd.of_own hB.hone)
     clear hB se
     go_wp2_with fail
     go_loopg [10] K (fun q i W => ∃ n : Nat, n <= K /\ q = K - n /\ i = .int .i64 n /\ ∃ m, W = wr.drewN m)
     case atStart => exact ⟨0, by omega, rfl, rfl, 0, rfl⟩
     case round =>
      obtain ⟨n, hn, rfl, rfl, m, rfl⟩ := hrel
      by_cases hnK : n < K
      ·
       obtain ⟨bm, rfl, _, x, hx, cx⟩ := HM.out.cell (j := n) (by omega)
       obtain ⟨bo, rfl, _, y, hy, cy⟩ := HO.out.cell (j := n) (by omega)
       obtain ⟨hX, _⟩ := HB.out.m n hnK x hx
       obtain ⟨hY, _⟩ := HB.out.o n hnK y hy
       have hV := HB.out.v n hnK
       obtain ⟨A2, c2, rfl, hx1, hx2⟩ := hX.form
       obtain ⟨A1, c1, rfl, hy1, hy2⟩ := hY.form
       obtain ⟨A3, c3, hv3, hv1, hv2⟩ := hV.form
       have se1 : wr.cell? ⟨ob, n, none⟩ = some (.slice A3 (ns n) c3) := by rw [<- hv3]; exact (HS.out _ HBut.out).e n hnK
       rw [hv3] at hV
       have HX := Lib.hid hX
       have HY := Lib.hid hY
       have HV := Lib.hid hV
       have hlen := HNS.out n hnK
       clear hX hY hV hv3 hx hy
       go_wp2_with fail
       go_loopg [11] (ns n + 70) (fun q i W => ∃ j : Nat, j <= ns n + 70 /\ q = ns n + 70 - j /\ i = .int .i64 j /\ ∃ m, W = wr.drewN m)
       case atStart => exact ⟨0, by omega, rfl, rfl, m, rfl⟩
       case round =>
        obtain ⟨j, hj, rfl, rfl, m, rfl⟩ := hrel
        by_cases hj70 : j < ns n + 70
        ·
         obtain ⟨b2, rfl, _, u, hu, cu⟩ := HX.out.cell (j := j) (by omega)
         have hmk := mks_at1 (M := markL n) (i := j) (k := ns n + 70) (fun _ => rfl) hj70 rfl
         rw [hmk] at hu
         injection hu with hu
         subst hu
         have hnum := fun W => (bnum_any n j W (by omega) (by omega) (by omega) (by omega))
         clear hmk
         rcases Nat.lt_trichotomy j (ns n) with h3 | h3 | h3
         ·
          obtain ⟨b3, rfl, _, u, hu, cu3⟩ := HV.out.cell (j := j) (by omega)
          have hmk := mks_at1 (M := markL n) (i := j) (k := ns n) (fun _ => rfl) h3 rfl
          rw [hmk] at hu
          injection hu with hu
          subst hu
          clear hmk
          go_wp2_with fail
          refine (hnum _).mono ?_
          rintro e w' ⟨rfl, rfl⟩
          go_wp2_with fail
          refine (hnum _).mono ?_
          rintro e w' ⟨rfl, rfl⟩
          go_wp2_with fail
          go_roundg (ns n + 70 - (j + 1))
          case measure => omega
          case rel => exact ⟨j + 1, by omega, rfl, by go_num, _, rfl⟩
         ·
          subst h3
          obtain ⟨b3, rfl, _, u, hu, cu3⟩ := HY.out.cell (j := ns n) (by omega)
          have hmk := mks_at1 (M := markL n) (i := ns n) (k := ns n + 1) (fun _ => rfl) (by omega) rfl
          rw [hmk] at hu
          injection hu with hu
          subst hu
          clear hmk
          go_wp2_with fail
          refine (hnum _).mono ?_
          rintro e w' ⟨rfl, rfl⟩
          go_wp2_with fail
          refine (hnum _).mono ?_
          rintro e w' ⟨rfl, rfl⟩
          go_wp2_with fail
          go_roundg (ns n + 70 - (ns n + 1))
          case measure => omega
          case rel => exact ⟨ns n + 1, by omega, rfl, by go_num, _, rfl⟩
         ·
          go_wp2_with fail
          refine (hnum _).mono ?_
          rintro e w' ⟨rfl, rfl⟩
          go_wp2_with fail
          refine (hnum _).mono ?_
          rintro e w' ⟨rfl, rfl⟩
          go_wp2_with fail
          go_roundg (ns n + 70 - (j + 1))
          case measure => omega
          case rel => exact ⟨j + 1, by omega, rfl, by go_num, _, rfl⟩
        ·
         obtain rfl : j = ns n + 70 := by omega
         go_wp2_with fail
         go_roundg (K - (n + 1))
         case measure => omega
         case rel => exact ⟨n + 1, by omega, rfl, by go_num, _, rfl⟩
      ·
       obtain rfl : K = n := by omega
       go_wp2_with fail
       go_ret
       exact ⟨rfl, HBut.out.drewN _⟩
end Go.Proofs.YtobplngonkdbpaaGreatDoor.B
/- BagS -/
namespace Go.Proofs.YtobplngonkdbpaaGreatDoor.B
open Go.RowKit
set_option linter.unusedSimpArgs false
set_option linter.unusedVariables false
theorem infoLTexts : (Tryz.prog.info? 25).map (fun i => (i.zero, i.size, i.bytes)) = some (some (.slice none 0 0), 1, 24) := by kernel_rfl
end Go.Proofs.YtobplngonkdbpaaGreatDoor.B
