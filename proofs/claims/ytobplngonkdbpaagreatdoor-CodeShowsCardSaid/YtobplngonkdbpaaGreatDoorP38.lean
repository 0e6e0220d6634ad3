/- Parts of this claim: BgD, CgN, CgO, AoW. -/
import Derived.Test.YtobplngonkdbpaaGreatDoorP27
import Derived.Test.YtobplngonkdbpaaGreatDoorP37
import Derived.Test.YtobplngonkdbpaaGreatDoorP30
import Derived.Test.YtobplngonkdbpaaGreatDoorP05
import Derived.Test.YtobplngonkdbpaaGreatDoorP25
import Derived.Test.YtobplngonkdbpaaGreatDoorP34
set_option linter.unusedVariables false
set_option linter.unusedSimpArgs false
/- BgD -/
namespace Go.Proofs.YtobplngonkdbpaaGreatDoor.B
open Go.RowKit
open Go.Proofs.YtobplngonkdbpaaGreatDoor.D
set_option linter.unusedSimpArgs false
set_option linter.unusedVariables false
theorem add_mem : ∀ (l : List (Nat × Value)) (K : Nat -> List Value) (q : Nat), ((l.foldl add1 K) q).Sublist (K q ++ (l.filter (fun a => a.1 == q)).map (·.2))
 | [], K, q => by simp
 | a :: l, K, q => by
  refine (add_mem l (add1 K a) q).trans ?_
  by_cases e : a.1 = q
  ·
   have : (List.filter (fun x => x.1 == q) (a :: l)).map (·.2) = a.2 :: (l.filter (fun x => x.1 == q)).map (·.2) := by rw [List.filter_cons_of_pos (by simpa using e)]; rfl
   rw [this]
   unfold add1
   split
   · rw [List.append_assoc]; exact List.Sublist.refl _
   · exact (List.Sublist.refl _).append (List.sublist_cons_self _ _)
  ·
   have : List.filter (fun x => x.1 == q) (a :: l) = l.filter (fun x => x.1 == q) := List.filter_cons_of_neg (by simpa using e)
   rw [this]
   unfold add1
   rw [if_neg (fun h => e h.1.symm)]
   exact List.Sublist.refl _
/-- The kinds of the rows that AddCode adds. -/
def rFunctions (g : FuL) : List (Nat × Rw) := [(4, ⟨9, 1, g.ev, g.f.env.length, envC g.f.env⟩), (9, ⟨92, 3, g.cv, g.f.code.length, codC g.f.code⟩)]
def rWaits (g : WtL) : List (Nat × Rw) := [(6, g.rw)]
def rCode (L : CoL) : List (Nat × Rw) := ((15, rowF L) :: (L.fns.take 300).flatMap rFunctions) ++ ((16, rowC L) :: (L.casts.take 300).flatMap rWaits) ++ [(2, rowN L)] ++ [(4, rowT L)] ++ [(4, rowY L)]
theorem rCode_o (L : CoL) : oCode L = (rCode L).map fun a => (a.1, a.2.v) := by
 unfold oCode rCode
 simp only [List.map_append, List.map_cons, List.map_nil, List.map_flatMap]
 rfl
theorem rCode_kind (L : CoL) : ∀ a ∈ rCode L, Us a.1 /\ a.2.e = Te a.1 /\ a.2.sz = Tz a.1 := by
 intro a ha
 unfold rCode at ha
 simp only [List.mem_append, List.mem_cons, List.mem_flatMap, List.not_mem_nil, or_false] at ha
 have us : ∀ q, (q = 2 \/ q = 4 \/ q = 6 \/ q = 9 \/ q = 15 \/ q = 16) -> Us q := fun q h => h
 rcases ha with ((((rfl | ⟨g, _, ha⟩) | (rfl | ⟨g, _, ha⟩)) | rfl) | rfl) | rfl
 · exact ⟨us _ (by simp), rfl, rfl⟩
 ·
  simp only [rFunctions, List.mem_cons, List.not_mem_nil, or_false] at ha
  rcases ha with rfl | rfl <;> exact ⟨us _ (by simp), rfl, rfl⟩
 · exact ⟨us _ (by simp), rfl, rfl⟩
 ·
  simp only [rWaits, List.mem_cons, List.not_mem_nil, or_false] at ha
  rcases ha with rfl; exact ⟨us _ (by simp), rfl, rfl⟩
 · exact ⟨us _ (by simp), rfl, rfl⟩
 · exact ⟨us _ (by simp), rfl, rfl⟩
 · exact ⟨us _ (by simp), rfl, rfl⟩
theorem rCode_perm (L : CoL) : ∃ l : List Rw, ((rCode L).map (·.2)).Perm l /\ l.Sublist L.rws := by
 have e1 : ((L.fns.take 300).flatMap rFunctions).map (·.2) = (L.fns.take 300).flatMap FuL.rws := by rw [List.map_flatMap]; rfl
 have e2 : ((L.casts.take 300).flatMap rWaits).map (·.2) = (L.casts.take 300).map WtL.rw := by rw [List.map_flatMap]; induction L.casts.take 300 with | nil => rfl | cons a l ih => simp [rWaits] at ih ⊢; exact ih
 refine ⟨rowF L :: rowC L :: rowN L :: rowT L :: rowY L :: ((L.fns.take 300).flatMap FuL.rws ++ (L.casts.take 300).map WtL.rw), ?_, ?_⟩
 ·
  unfold rCode
  simp only [List.map_append, List.map_cons, List.map_nil, e1, e2, List.cons_append, List.append_assoc, List.nil_append]
  refine List.Perm.cons _ ?_
  refine List.perm_middle.trans (List.Perm.cons _ ?_)
  rw [<- List.append_assoc]
  exact List.perm_append_comm
 ·
  rw [rws_eq]
  refine List.Sublist.cons_cons _ (List.Sublist.cons_cons _ (List.Sublist.cons_cons _ (List.Sublist.cons_cons _ (List.Sublist.cons_cons _ ?_))))
  unfold rowR
  refine List.Sublist.append ?_ ((List.take_sublist _ _).map _)
  conv => rhs; rw [<- List.take_append_drop 300 L.fns, List.flatMap_append]
  exact List.sublist_append_left _ _
theorem rCode_mem {L : CoL} {a : Nat × Rw} (h : a ∈ rCode L) : a.2 ∈ L.rws := by
 obtain ⟨l, h1, h2⟩ := rCode_perm L
 exact h2.subset (h1.mem_iff.1 (List.mem_map_of_mem h))
theorem rCode_ap {L : CoL} {w : World} {base : Nat} (h : Own w base L.rws) : ((rCode L).map (·.2)).Pairwise fun a b => Ap a.v b.v := by
 obtain ⟨l, h1, h2⟩ := rCode_perm L
 exact (List.Perm.pairwise_iff (fun {x y} (k : Ap x.v y.v) => Ap.symm k) h1).2 (h.ap.sublist h2)
theorem own_low {w w' : World} {base B : Nat} {l : List Rw} (h : Own w base l) (hb : Below B w w') (hl : ∀ r ∈ l, ∀ b, r.v.ownBlock = some b -> b < B) : Own w' base l :=
 ⟨fun r hr => own_at (h.own r hr) fun b hb' => hb.block b (hl r hr b hb'), h.ap⟩
theorem slLen_own {w : World} {base sz n : Nat} {e : TypeId} {v : Value} {xs : List Value} (h : w.ownsRow base e sz v n xs) : slLen v = n := by
 obtain ⟨A, c, rfl, _⟩ := own_shape h; rfl
theorem small16 {L : CoL} (hm : mC L.code <= 1048576) : C16 L := by
 unfold mC at hm
 have e1 : L.code.fns.length = L.fns.length := by simp [CoL.code]
 have e2 : L.code.casts.length = L.casts.length := by simp [CoL.code]
 have e3 : L.code.nums = L.nums := rfl
 have e4 : L.code.texts = L.texts := rfl
 have e5 : L.code.types = L.types := rfl
 rw [e1, e2, e3, e4, e5] at hm
 have hf : ∀ g ∈ L.fns, mF g.f <= 1048576 := fun g hg => by
  have := mem_sum (f := mF) (l := L.code.fns) (a := g.f) (by simp only [CoL.code, List.mem_map]; exact ⟨g, hg, rfl⟩)
  omega
 have hc : ∀ g ∈ L.casts, mW g.w <= 1048576 := fun g hg => by
  have := mem_sum (f := mW) (l := L.code.casts) (a := g.w) (by simp only [CoL.code, List.mem_map]; exact ⟨g, hg, rfl⟩)
  omega
 have ht : ∀ (l : List Bs), mT l <= 1048576 -> l.length <= 1048576 := fun l h => by unfold mT at h; omega
 have t1 := ht L.texts (by omega)
 have y1 := ht L.types (by omega)
 refine ⟨by omega, by omega, by omega, by omega, by omega, fun g hg => ?_, fun g hg => ?_, fun g hg => ?_⟩
 ·
  have h := hf g hg
  have h2 : mT g.f.env <= 1048576 := by unfold mF at h; omega
  have := ht _ h2; omega
 ·
  have h := hf g hg
  unfold mF at h; omega
 ·
  have h := hc g hg
  unfold mW at h; omega
theorem small_env {L : CoL} (hm : mC L.code <= 1048576) : ∀ g ∈ L.fns, g.f.env.length <= 1048576 := fun g hg => by
 have e1 : g.f ∈ L.code.fns := by simp only [CoL.code, List.mem_map]; exact ⟨g, hg, rfl⟩
 have := mem_sum (f := mF) (l := L.code.fns) (a := g.f) e1
 have h : mF g.f <= 1048576 := by unfold mC at hm; omega
 have h2 : mT g.f.env <= 1048576 := by unfold mF at h; omega
 unfold mT at h2; omega
theorem rws_len {L : CoL} (h : C16 L) : ∀ r ∈ L.rws, r.n <= 16777216 := by
 intro r hr
 rw [rws_eq] at hr
 unfold rowR at hr
 simp only [List.mem_cons, List.mem_append, List.mem_flatMap, List.mem_map] at hr
 rcases hr with rfl | rfl | rfl | rfl | rfl | ⟨g, hg, hr⟩ | ⟨g, hg, rfl⟩
 · exact h.f
 · exact h.c
 · exact h.n
 · exact h.t
 · exact h.y
 ·
  simp only [FuL.rws, List.mem_cons, List.not_mem_nil, or_false] at hr
  rcases hr with rfl | rfl
  · exact h.fe g hg
  · exact h.fc g hg
 · exact h.co g hg
/-- The bag of two codes, the second one made behind the first. -/
theorem bagE_two {w : World} {gb base m : Nat} {La Lb : CoL} (ha : Own w base La.rws) (hla : ∀ r ∈ La.rws, ∀ b, r.v.ownBlock = some b -> b < m) (hb : Own w m Lb.rws) (hlb : ∀ r ∈ Lb.rws, ∀ b, r.v.ownBlock = some b -> b < gb)
  (hm : base <= m) (hmg : m <= gb) (c1 : C16 La) (c2 : C16 Lb) : BagE w gb base ((oCode La ++ oCode Lb).foldl add1 fun _ => []) := by
 have hsub : ∀ q, (((oCode La ++ oCode Lb).foldl add1 fun _ => []) q).Sublist (((rCode La ++ rCode Lb).filter (fun a => a.1 == q)).map fun a => a.2.v) := fun q => by
  have h := add_mem (oCode La ++ oCode Lb) (fun _ => []) q
  rw [List.nil_append] at h
  have e : ((oCode La ++ oCode Lb).filter (fun a => a.1 == q)).map (·.2) = ((rCode La ++ rCode Lb).filter (fun a => a.1 == q)).map fun a => a.2.v := by
   rw [rCode_o, rCode_o, <- List.map_append, List.filter_map, List.map_map]; rfl
  rw [e] at h
  exact h
 have hmem : ∀ q v, v ∈ ((oCode La ++ oCode Lb).foldl add1 fun _ => []) q -> ∃ a ∈ rCode La ++ rCode Lb, a.1 = q /\ a.2.v = v := fun q v hv => by
  obtain ⟨a, h1, h2⟩ := List.mem_map.1 ((hsub q).subset hv)
  obtain ⟨h3, h4⟩ := List.mem_filter.1 h1
  exact ⟨a, h3, by simpa using h4, h2⟩
 have hown : ∀ a ∈ rCode La ++ rCode Lb, w.ownsRow base a.2.e a.2.sz a.2.v a.2.n a.2.xs /\ (∀ b, a.2.v.ownBlock = some b -> b < gb) /\ a.2.n <= 16777216 /\ Us a.1 /\ a.2.e = Te a.1 /\ a.2.sz = Tz a.1 := fun a h => by
  rcases List.mem_append.1 h with h | h
  · exact ⟨ha.own _ (rCode_mem h), fun b hb => by have := hla _ (rCode_mem h) b hb; omega, rws_len c1 _ (rCode_mem h), rCode_kind La a h⟩
  · exact ⟨own_base (hb.own _ (rCode_mem h)) hm, hlb _ (rCode_mem h), rws_len c2 _ (rCode_mem h), rCode_kind Lb a h⟩
 refine ⟨fun q _ v hv => ?_, fun q _ v hv => ?_, fun q _ v hv => ?_, fun q _ => ?_⟩
 ·
  obtain ⟨a, h1, rfl, rfl⟩ := hmem q v hv
  obtain ⟨h2, _, _, _, h3, h4⟩ := hown a h1
  refine ⟨a.2.xs, ?_⟩
  rw [slLen_own h2, <- h3, <- h4]; exact h2
 ·
  obtain ⟨a, h1, rfl, rfl⟩ := hmem q v hv
  exact (hown a h1).2.1
 ·
  obtain ⟨a, h1, rfl, rfl⟩ := hmem q v hv
  rw [slLen_own (hown a h1).1]; exact (hown a h1).2.2.1
 ·
  refine List.Pairwise.sublist (hsub q) ?_
  have hp : (rCode La ++ rCode Lb).Pairwise fun a b => Ap a.2.v b.2.v := by
   have pa := rCode_ap ha
   have pb := rCode_ap hb
   rw [List.pairwise_map] at pa pb
   refine List.pairwise_append.2 ⟨pa, pb, fun x hx y hy => ?_⟩
   exact Ap.fresh (N := m) (hla _ (rCode_mem hx)) fun b hb' => ((hb.own _ (rCode_mem hy)).lt b hb').1
  rw [List.pairwise_map]
  exact hp.sublist List.filter_sublist
theorem bagS_new (w : World) : BagS (w.alloc (.cells bagCells 59)) w.heap.size (fun _ => []) :=
 ⟨⟨_, bag_new w _, fun q _ => .inl ⟨rfl, rfl⟩⟩, fun _ => Nat.zero_le _⟩
end Go.Proofs.YtobplngonkdbpaaGreatDoor.B
/- CgN -/
namespace Go.Proofs.YtobplngonkdbpaaGreatDoor.D
open Go.RowKit
open Go.Proofs.YtobplngonkdbpaaGreatDoor.B
set_option linter.unusedVariables false
set_option linter.unusedSimpArgs false
end Go.Proofs.YtobplngonkdbpaaGreatDoor.D
/- CgO -/
namespace Go.Proofs.YtobplngonkdbpaaGreatDoor.D
open Go.RowKit
open Go.Proofs.YtobplngonkdbpaaGreatDoor.B
set_option linter.unusedVariables false
set_option linter.unusedSimpArgs false
theorem showB_c (L : CoL) (c : Cod) (w : World) (hc : L.code = c) (hok : c.ok) (hm : mC c <= 1048576) (hCR : CR w L) (hg : Gl w) : Calls Tryz.prog 9 #[.agg L.vals.toArray] w fun e w' => e = .returned (strV (showV c)) /\ Below w.heap.size w w' := by
 subst hc
 obtain ⟨hB, hb2⟩ := small_bounds hm
 have hl := show_len hok
 exact show_c L w hok (by omega) hb2 (fun g hg => by have := hB.fe g hg; omega) (fun g hg => by have := hB.co g hg; omega) hCR hg
theorem heightB_c (L : CoL) (c : Cod) (w : World) (hc : L.code = c) (hok : c.ok) (hm : mC c <= 1048576) (hCR : CR w L) : Calls Tryz.prog 13 #[.agg L.vals.toArray] w fun e w' => e = .returned (.int .i64 (heV c : Nat)) /\ Below w.heap.size w w' := by
 subst hc
 obtain ⟨hB, hb2⟩ := small_bounds hm
 exact height_c L w hok (fun g hg => by have := hB.co g hg; omega) hCR
theorem sizeB_c (L : CoL) (c : Cod) (w : World) (hc : L.code = c) (hm : mC c <= 1048576) (hCR : CR w L) : Calls Tryz.prog 15 #[.agg L.vals.toArray] w fun e w' => e = .returned (.int .i64 (szV c : Nat)) /\ Below w.heap.size w w' := by
 subst hc
 have := szV_le L.code
 exact size_c L w (by omega) hCR
end Go.Proofs.YtobplngonkdbpaaGreatDoor.D
/- AoW -/
namespace Go.Proofs.YtobplngonkdbpaaGreatDoor.D
open Go.RowKit
open Go.Proofs.YtobplngonkdbpaaGreatDoor.B
set_option linter.unusedVariables false
set_option linter.unusedSimpArgs false
set_option maxRecDepth 100000 in
set_option maxHeartbeats 16000000 in
theorem codeShows_walk (L : CoL) (op : Int) (w : World) (h0 : -128 <= op) (h1 : op <= 127) (hCR : CR w L) (hok : L.code.ok) (hB : RBd L) (hg : Gl w) :
  Calls Tryz.prog 3 #[.agg L.vals.toArray, .int .i8 op] w fun e w' => e = .returned (.bool true) /\ Below w.heap.size w w' := by
 obtain ⟨A1, c1, e1, -, -, -⟩ := hCR.f.sl
 obtain ⟨A2, c2, e2, -, -, -⟩ := hCR.c.sl
 obtain ⟨A3, c3, e3, -, -, -⟩ := hCR.n.sl
 obtain ⟨A4, c4, e4, -, -, -⟩ := hCR.t.sl
 obtain ⟨A5, c5, e5, -, -, -⟩ := hCR.y.sl
 obtain ⟨n1, hn1⟩ : ∃ n, L.fns.length = n := ⟨_, rfl⟩
 rw [hn1] at e1
 obtain ⟨n2, hn2⟩ : ∃ n, L.casts.length = n := ⟨_, rfl⟩
 rw [hn2] at e2
 obtain ⟨n3, hn3⟩ : ∃ n, L.nums.length = n := ⟨_, rfl⟩
 rw [hn3] at e3
 obtain ⟨n4, hn4⟩ : ∃ n, L.texts.length = n := ⟨_, rfl⟩
 rw [hn4] at e4
 obtain ⟨n5, hn5⟩ : ∃ n, L.types.length = n := ⟨_, rfl⟩
 rw [hn5] at e5
 have hv : L.vals.toArray = #[.slice A1 n1 c1, .slice A2 n2 c2, .slice A3 n3 c3, .slice A4 n4 c4, .slice A5 n5 c5] := by unfold CoL.vals; rw [e1, e2, e3, e4, e5]
 obtain ⟨C, hC⟩ : ∃ C, L.code = C := ⟨_, rfl⟩
 have HHV := Lib.hid (fun W (hb : Below w.heap.size w W) => heavy_c L W (hCR.grow hb) hB)
 have HWD := Lib.hid (fun W (hb : Below w.heap.size w W) (hm : mC L.code <= 1048576) => wideCode_c L W (hg.on hb) (hCR.grow hb) (small16 hm))
 have HEQ := Lib.hid (fun (L8 : CoL) W (hb : Below w.heap.size w W) (h8 : CR W L8) (hc : L8.code = L.code) => eqCode_c L8 L W h8 (hCR.grow hb) hc)
 have HSA := Lib.hid (fun W (hb : Below w.heap.size w W) (hm : mC L.code <= 1048576) => showA_any L W hok (by have := show_len hok; omega) (small_bounds hm).2 (fun g hg => small_env hm g hg) (small_bounds hm).1 (hCR.grow hb) (hg.on hb))
 have HHA := Lib.hid (fun W (hb : Below w.heap.size w W) (hm : mC L.code <= 1048576) => heightA_any L W hok (small_bounds hm).1.co (hCR.grow hb))
 have HZA := Lib.hid (fun W (hb : Below w.heap.size w W) (hm : mC L.code <= 1048576) => sizeA_any L W (by have := szV_le L.code; omega) (hCR.grow hb))
 have HN1 := Lib.hid (fun W => name_c op W h0 h1)
 have HN2 := Lib.hid (fun W => nameA_any op W h0 h1)
 obtain ⟨nm, hnm⟩ : ∃ x, nameV op = x := ⟨_, rfl⟩
 rw [hnm] at HN1 HN2
 have HG := Lib.hid (fun W (hb : Below w.heap.size w W) => hg.on hb)
 have HTAB := Lib.hid hg.tab
 rw [hC] at HHV HWD HEQ HSA HHA HZA hok
 rw [hv] at HHV HWD HEQ HSA HHA HZA ⊢
 obtain ⟨X, hX⟩ : ∃ X, showV C = X := ⟨_, rfl⟩
 have hrd := read_show hok
 rw [hX] at hrd HSA
 have HX := Lib.hid (And.intro hX hrd)
 have HLEN := Lib.hid (show X.length <= 400 * mC C by rw [<- hX]; exact show_len hok)
 have HOK := Lib.hid hok
 obtain ⟨g0, hg0⟩ : ∃ x, w.heap.size = x := ⟨_, rfl⟩
 obtain ⟨W1, hW1⟩ : ∃ W1, w.alloc (.cells #[.slice A1 n1 c1, .slice A2 n2 c2, .slice A3 n3 c3, .slice A4 n4 c4, .slice A5 n5 c5] 27) = W1 := ⟨_, rfl⟩
 have hb1 : Below w.heap.size w W1 := by rw [<- hW1]; exact bal b0 _
 have k1 : Blk W1 g0 27 #[.slice A1 n1 c1, .slice A2 n2 c2, .slice A3 n3 c3, .slice A4 n4 c4, .slice A5 n5 c5] := by rw [<- hW1, <- hg0]; exact Blk.new w _ _
 have HK := Lib.hid (And.intro hb1 k1)
 clear hCR hB hg hok hv hC hX hrd hnm e1 e2 e3 e4 e5 hn1 hn2 hn3 hn4 hn5 hb1 k1 h0 h1
 unfold strV at HSA HN1 HN2
 go_enter Tryz.func3, Tryz.ntmps3
 go_upto_region 1 with fail
 clear hW1 hg0
 go_wp2_with (refine wpList_load_row_g (by kernel_rfl) 27 (.tmp 2) rfl g0 rfl 27 #[.slice A1 n1 c1, .slice A2 n2 c2, .slice A3 n3 c3, .slice A4 n4 c4, .slice A5 n5 c5] (0, 0) _ (HK.out.2) Tryz.underlying27 rfl (by kernel_rfl) ?_)
 refine (HHV.out _ HK.out.1).mono ?_
 rintro e w2 ⟨b, rfl, hm, hb2⟩
 have HK2 := Lib.hid (And.intro (bl HK.out.1 hb2) (HK.out.2.below hb2 HK.out.2.lt))
 clear hb2
 cases b with
 | true =>
  clear hm
  go_wp2_with fail
  refine (lives_c _ (HG.out _ HK2.out.1)).mono ?_
  rintro e w3 ⟨rfl, hb3⟩
  go_wp2_with fail
  go_ret
  exact ⟨rfl, bl HK2.out.1 hb3⟩
 | false =>
  have HMC := Lib.hid (show mC C <= 1048576 by have := hm rfl; omega)
  have hlX : X.length <= 13107200 := by have := hm rfl; have := HLEN.out; omega
  clear hm
  go_wp2_with (refine wpList_load_row_g (by kernel_rfl) 27 (.tmp 2) rfl g0 rfl 27 #[.slice A1 n1 c1, .slice A2 n2 c2, .slice A3 n3 c3, .slice A4 n4 c4, .slice A5 n5 c5] (0, 0) _ (HK2.out.2) Tryz.underlying27 rfl (by kernel_rfl) ?_)
  refine (HWD.out _ HK2.out.1 HMC.out).mono ?_
  rintro e w3 ⟨L5, rfl, hc5, hwc, hb3⟩
  have h16 : C16 L5 := small16 (by rw [hc5]; exact HMC.out)
  have hcr5 := hwc.cr h16
  obtain ⟨B1, d1, e1, -, -, -⟩ := hcr5.f.sl
  obtain ⟨B2, d2, e2, -, -, -⟩ := hcr5.c.sl
  obtain ⟨B3, d3, e3, -, -, -⟩ := hcr5.n.sl
  obtain ⟨B4, d4, e4, -, -, -⟩ := hcr5.t.sl
  obtain ⟨B5, d5, e5, -, -, -⟩ := hcr5.y.sl
  obtain ⟨m1, hm1⟩ : ∃ n, L5.fns.length = n := ⟨_, rfl⟩
  rw [hm1] at e1
  obtain ⟨m2, hm2⟩ : ∃ n, L5.casts.length = n := ⟨_, rfl⟩
  rw [hm2] at e2
  obtain ⟨m3, hm3⟩ : ∃ n, L5.nums.length = n := ⟨_, rfl⟩
  rw [hm3] at e3
  obtain ⟨m4, hm4⟩ : ∃ n, L5.texts.length = n := ⟨_, rfl⟩
  rw [hm4] at e4
  obtain ⟨m5, hm5⟩ : ∃ n, L5.types.length = n := ⟨_, rfl⟩
  rw [hm5] at e5
  have hv5 : L5.vals.toArray = #[.slice B1 m1 d1, .slice B2 m2 d2, .slice B3 m3 d3, .slice B4 m4 d4, .slice B5 m5 d5] := by unfold CoL.vals; rw [e1, e2, e3, e4, e5]
  have hb35 := bl HK2.out.1 hb3
  have HSH := Lib.hid (fun W (hb : Below w3.heap.size w3 W) => showB_c L5 C W hc5 HOK.out HMC.out (hcr5.grow hb) (HG.out W (bl hb35 hb)))
  have HHE := Lib.hid (fun W (hb : Below w3.heap.size w3 W) => heightB_c L5 C W hc5 HOK.out HMC.out (hcr5.grow hb))
  have HSZ := Lib.hid (fun W (hb : Below w3.heap.size w3 W) => sizeB_c L5 C W hc5 HMC.out (hcr5.grow hb))
  have HEQ5 := Lib.hid (fun W (hb : Below w3.heap.size w3 W) => HEQ.out L5 W (bl hb35 hb) (hcr5.grow hb) hc5)
  have HSP := Lib.hid (fun W (hb : Below w3.heap.size w3 W) => spareCode_c L5 W _ (HG.out W (bl hb35 hb)) (hwc.grow hb) h16)
  rw [hv5] at HSH HHE HSZ HEQ5 HSP ⊢
  rw [HX.out.1] at HSH
  unfold strV at HSH
  obtain ⟨g5, hg5⟩ : ∃ x, w3.heap.size = x := ⟨_, rfl⟩
  have HG5 := Lib.hid hg5
  have HB3 := Lib.hid hb3
  clear hb3 hc5 hwc h16 hcr5 e1 e2 e3 e4 e5 hm1 hm2 hm3 hm4 hm5 hv5 hb35 hg5
  go_upto_region 4 with fail
  rw [HG5.out]
  obtain ⟨W5, hW5⟩ : ∃ W5, w3.alloc (.cells #[.slice B1 m1 d1, .slice B2 m2 d2, .slice B3 m3 d3, .slice B4 m4 d4, .slice B5 m5 d5] 27) = W5 := ⟨_, rfl⟩
  have hb5 : Below w3.heap.size w3 W5 := by rw [<- hW5]; exact bal b0 _
  have k5 : Blk W5 g5 27 #[.slice B1 m1 d1, .slice B2 m2 d2, .slice B3 m3 d3, .slice B4 m4 d4, .slice B5 m5 d5] := by rw [<- hW5]; exact bk HG5.out _ _
  have HK5 := Lib.hid (show Below w3.heap.size w3 W5 /\ Below w.heap.size w W5 /\ Blk W5 g0 27 #[.slice A1 n1 c1, .slice A2 n2 c2, .slice A3 n3 c3, .slice A4 n4 c4, .slice A5 n5 c5] /\ Blk W5 g5 27 #[.slice B1 m1 d1, .slice B2 m2 d2, .slice B3 m3 d3, .slice B4 m4 d4, .slice B5 m5 d5] from ⟨hb5, bl HK2.out.1 (bl HB3.out hb5), HK2.out.2.below (bl HB3.out hb5) HK2.out.2.lt, k5⟩)
  clear hb5 k5
  rw [hW5]
  clear hW5
  go_wp2_with (refine wpList_load_row_g (by kernel_rfl) 27 (.tmp 5) rfl g5 rfl 27 #[.slice B1 m1 d1, .slice B2 m2 d2, .slice B3 m3 d3, .slice B4 m4 d4, .slice B5 m5 d5] (0, 0) _ (HK5.out.2.2.2) Tryz.underlying27 rfl (by kernel_rfl) ?_)
  refine (HSH.out _ HK5.out.1).mono ?_
  rintro e w5 ⟨rfl, hb5⟩
  have HK6 := Lib.hid (show Below w3.heap.size w3 w5 /\ Below w.heap.size w w5 /\ Blk w5 g0 27 #[.slice A1 n1 c1, .slice A2 n2 c2, .slice A3 n3 c3, .slice A4 n4 c4, .slice A5 n5 c5] /\ Blk w5 g5 27 #[.slice B1 m1 d1, .slice B2 m2 d2, .slice B3 m3 d3, .slice B4 m4 d4, .slice B5 m5 d5] from ⟨bl HK5.out.1 hb5, bl HK5.out.2.1 hb5, HK5.out.2.2.1.below hb5 HK5.out.2.2.1.lt, HK5.out.2.2.2.below hb5 HK5.out.2.2.2.lt⟩)
  clear hb5
  go_upto_region 5 with fail
  refine wp_region_held_drew (S := (fun W' => Below w5.heap.size w5 W' /\ Blk W' g0 27 #[.slice A1 n1 c1, .slice A2 n2 c2, .slice A3 n3 c3, .slice A4 n4 c4, .slice A5 n5 c5] /\ Blk W' g5 27 #[.slice B1 m1 d1, .slice B2 m2 d2, .slice B3 m3 d3, .slice B4 m4 d4, .slice B5 m5 d5])) (by kernel_rfl) ?ss1 (fun hHeld => ?rr1)
  case ss1 => (try dsimp only); exact ⟨bdr b0 1, HK6.out.2.2.1.drewN 1, HK6.out.2.2.2.drewN 1⟩
  refine rgt 0 21 rfl rfl hHeld ?_
  try simp only [Act.put, rg1, rg2, rg3]
  refine rgt 1 22 rfl rfl hHeld ?_ (by intro wq hq; (try dsimp only at hq); exact exec_load_row _ _ g0 rfl _ #[.slice A1 n1 c1, .slice A2 n2 c2, .slice A3 n3 c3, .slice A4 n4 c4, .slice A5 n5 c5] (0, 0) _ hq.2.1 Tryz.underlying27 rfl (by kernel_rfl))
  try simp only [Act.put, rg1, rg2, rg3]
  refine rgc 2 (some 23) rfl (fun K hK => ?_)
  go_simp
  ((refine (HSA.out _ (bl HK6.out.2.1 hHeld.1) HMC.out).mono ?_); rintro e wk2 ⟨rfl, hc2_⟩)
  refine hK.out _ _ ?ss4 (fun hHeld2 => ?rr4)
  case ss4 => (try dsimp only); exact ⟨bl hHeld.1 hc2_, hHeld.2.1.below hc2_ hHeld.2.1.lt, hHeld.2.2.below hc2_ hHeld.2.2.lt⟩
  clear hK K
  clear hHeld
  have hHeld := hHeld2
  clear hHeld2
  try simp only [Act.put, rg1, rg2, rg3]
  refine rgt 3 24 rfl rfl hHeld ?_
  try simp only [Act.put, rg1, rg2, rg3]
  refine rgt 4 25 rfl rfl hHeld ?_
  try simp only [Act.put, rg1, rg2, rg3]
  refine rgt 5 26 rfl rfl hHeld ?_
  try simp only [Act.put, rg1, rg2, rg3]
  refine rgt 7 28 rfl rfl hHeld ?_
  try simp only [Act.put, rg1, rg2, rg3]
  refine rgc 6 (some 27) rfl (fun K hK => ?_)
  go_simp
  ((refine (HN1.out _).mono ?_); rintro e wk6 ⟨rfl, hc6_⟩)
  refine hK.out _ _ ?ss9 (fun hHeld2 => ?rr9)
  case ss9 => (try dsimp only); exact ⟨bl hHeld.1 hc6_, hHeld.2.1.below hc6_ hHeld.2.1.lt, hHeld.2.2.below hc6_ hHeld.2.2.lt⟩
  clear hK K
  clear hHeld
  have hHeld := hHeld2
  clear hHeld2
  try simp only [Act.put, rg1, rg2, rg3]
  refine rgc 8 (some 29) rfl (fun K hK => ?_)
  go_simp
  ((refine (HN2.out _).mono ?_); rintro e wk8 ⟨rfl, hc8_⟩)
  refine hK.out _ _ ?ss10 (fun hHeld2 => ?rr10)
  case ss10 => (try dsimp only); exact ⟨bl hHeld.1 hc8_, hHeld.2.1.below hc8_ hHeld.2.1.lt, hHeld.2.2.below hc8_ hHeld.2.2.lt⟩
  clear hK K
  clear hHeld
  have hHeld := hHeld2
  clear hHeld2
  try simp only [Act.put, rg1, rg2, rg3]
  refine rgt 9 30 rfl rfl hHeld ?_
  try simp only [Act.put, rg1, rg2, rg3]
  refine rgt 10 31 rfl rfl hHeld ?_
  try simp only [Act.put, rg1, rg2, rg3]
  refine rgt 11 32 rfl rfl hHeld ?_
  try simp only [Act.put, rg1, rg2, rg3]
  refine rgt 12 33 rfl rfl hHeld ?_ (by intro wq hq; (try dsimp only at hq); exact exec_load_row _ _ g5 rfl _ #[.slice B1 m1 d1, .slice B2 m2 d2, .slice B3 m3 d3, .slice B4 m4 d4, .slice B5 m5 d5] (0, 0) _ hq.2.2 Tryz.underlying27 rfl (by kernel_rfl))
  try simp only [Act.put, rg1, rg2, rg3]
  refine rgt 14 35 rfl rfl hHeld ?_ (by intro wq hq; (try dsimp only at hq); exact exec_load_row _ _ g0 rfl _ #[.slice A1 n1 c1, .slice A2 n2 c2, .slice A3 n3 c3, .slice A4 n4 c4, .slice A5 n5 c5] (0, 0) _ hq.2.1 Tryz.underlying27 rfl (by kernel_rfl))
  try simp only [Act.put, rg1, rg2, rg3]
  refine rgc 13 (some 34) rfl (fun K hK => ?_)
  go_simp
  ((refine (HHE.out _ (bl HK6.out.1 hHeld.1)).mono ?_); rintro e wk13 ⟨rfl, hc13_⟩)
  refine hK.out _ _ ?ss16 (fun hHeld2 => ?rr16)
  case ss16 => (try dsimp only); exact ⟨bl hHeld.1 hc13_, hHeld.2.1.below hc13_ hHeld.2.1.lt, hHeld.2.2.below hc13_ hHeld.2.2.lt⟩
  clear hK K
  clear hHeld
  have hHeld := hHeld2
  clear hHeld2
  try simp only [Act.put, rg1, rg2, rg3]
  refine rgc 15 (some 36) rfl (fun K hK => ?_)
  go_simp
  ((refine (HHA.out _ (bl HK6.out.2.1 hHeld.1) HMC.out).mono ?_); rintro e wk15 ⟨rfl, hc15_⟩)
  refine hK.out _ _ ?ss17 (fun hHeld2 => ?rr17)
  case ss17 => (try dsimp only); exact ⟨bl hHeld.1 hc15_, hHeld.2.1.below hc15_ hHeld.2.1.lt, hHeld.2.2.below hc15_ hHeld.2.2.lt⟩
  clear hK K
  clear hHeld
  have hHeld := hHeld2
  clear hHeld2
  try simp only [Act.put, rg1, rg2, rg3]
  refine rgt 16 37 rfl rfl hHeld ?_
  try simp only [Act.put, rg1, rg2, rg3]
  refine rgt 17 38 rfl rfl hHeld ?_
  try simp only [Act.put, rg1, rg2, rg3]
  refine rgt 18 39 rfl rfl hHeld ?_
  try simp only [Act.put, rg1, rg2, rg3]
  refine rgt 19 40 rfl rfl hHeld ?_ (by intro wq hq; (try dsimp only at hq); exact exec_load_row _ _ g5 rfl _ #[.slice B1 m1 d1, .slice B2 m2 d2, .slice B3 m3 d3, .slice B4 m4 d4, .slice B5 m5 d5] (0, 0) _ hq.2.2 Tryz.underlying27 rfl (by kernel_rfl))
  try simp only [Act.put, rg1, rg2, rg3]
  refine rgt 21 42 rfl rfl hHeld ?_ (by intro wq hq; (try dsimp only at hq); exact exec_load_row _ _ g0 rfl _ #[.slice A1 n1 c1, .slice A2 n2 c2, .slice A3 n3 c3, .slice A4 n4 c4, .slice A5 n5 c5] (0, 0) _ hq.2.1 Tryz.underlying27 rfl (by kernel_rfl))
  try simp only [Act.put, rg1, rg2, rg3]
  refine rgc 20 (some 41) rfl (fun K hK => ?_)
  go_simp
  ((refine (HSZ.out _ (bl HK6.out.1 hHeld.1)).mono ?_); rintro e wk20 ⟨rfl, hc20_⟩)
  refine hK.out _ _ ?ss23 (fun hHeld2 => ?rr23)
  case ss23 => (try dsimp only); exact ⟨bl hHeld.1 hc20_, hHeld.2.1.below hc20_ hHeld.2.1.lt, hHeld.2.2.below hc20_ hHeld.2.2.lt⟩
  clear hK K
  clear hHeld
  have hHeld := hHeld2
  clear hHeld2
  try simp only [Act.put, rg1, rg2, rg3]
  refine rgc 22 (some 43) rfl (fun K hK => ?_)
  go_simp
  ((refine (HZA.out _ (bl HK6.out.2.1 hHeld.1) HMC.out).mono ?_); rintro e wk22 ⟨rfl, hc22_⟩)
  refine hK.out _ _ ?ss24 (fun hHeld2 => ?rr24)
  case ss24 => (try dsimp only); exact ⟨bl hHeld.1 hc22_, hHeld.2.1.below hc22_ hHeld.2.1.lt, hHeld.2.2.below hc22_ hHeld.2.2.lt⟩
  clear hK K
  clear hHeld
  have hHeld := hHeld2
  clear hHeld2
  try simp only [Act.put, rg1, rg2, rg3]
  refine rgt 23 44 rfl rfl hHeld ?_
  try simp only [Act.put, rg1, rg2, rg3]
  refine rgt 24 45 rfl rfl hHeld ?_
  try simp only [Act.put, rg1, rg2, rg3]
  refine wpAnyH_done (by kernel_rfl) ?_ _
  have HK7 := Lib.hid (show Below w3.heap.size w3 wk22 /\ Below w.heap.size w wk22 /\ Blk wk22 g0 27 #[.slice A1 n1 c1, .slice A2 n2 c2, .slice A3 n3 c3, .slice A4 n4 c4, .slice A5 n5 c5] /\ Blk wk22 g5 27 #[.slice B1 m1 d1, .slice B2 m2 d2, .slice B3 m3 d3, .slice B4 m4 d4, .slice B5 m5 d5] from ⟨bl HK6.out.1 hHeld.1, bl HK6.out.2.1 hHeld.1, hHeld.2.1, hHeld.2.2⟩)
  clear hHeld
  obtain ⟨wA, hwA⟩ : ∃ x : World, x = wk22 := ⟨_, rfl⟩
  subst hwA
  go_wp2_with fail
  refine (read_c X _ (by omega) (HG.out _ HK7.out.2.1)).mono ?_
  rintro e w8 ⟨hb, ⟨k, c, L8, hr, hc, rfl, how⟩ | ⟨n, hr, _⟩⟩
  rotate_left
  ·
   exfalso
   obtain ⟨k0, h0⟩ := HX.out.2
   rw [h0] at hr; cases hr
  have hcc : c = C := by
   obtain ⟨k0, h0⟩ := HX.out.2
   rw [h0] at hr
   injection hr with h1
   injection h1 with h1
   injection h1 with _ h2
   exact h2.symm
  have hc' := hc.trans hcc
  obtain ⟨E1, f1, E2, f2, E3, f3, E4, f4, E5, f5, hv⟩ := own_vals how
  obtain ⟨p1, hp1⟩ : ∃ n, L8.fns.length = n := ⟨_, rfl⟩
  obtain ⟨p2, hp2⟩ : ∃ n, L8.casts.length = n := ⟨_, rfl⟩
  obtain ⟨p3, hp3⟩ : ∃ n, L8.nums.length = n := ⟨_, rfl⟩
  obtain ⟨p4, hp4⟩ : ∃ n, L8.texts.length = n := ⟨_, rfl⟩
  obtain ⟨p5, hp5⟩ : ∃ n, L8.types.length = n := ⟨_, rfl⟩
  rw [hp1, hp2, hp3, hp4, hp5] at hv
  have hcr := CR.of_own how.own
  have hbw := bl HK7.out.2.1 hb
  have HEQ8 := Lib.hid (fun W (hb' : Below w8.heap.size w8 W) => HEQ.out L8 W (bl hbw hb') (hcr.grow hb') hc')
  rw [hv] at HEQ8 ⊢
  have HO8 := Lib.hid (show Own w8 wA.heap.size L8.rws /\ L8.vals.toArray = #[.slice E1 p1 f1, .slice E2 p2 f2, .slice E3 p3 f3, .slice E4 p4 f4, .slice E5 p5 f5] /\ C16 L8 from ⟨how, hv, small16 (by rw [hc']; exact HMC.out)⟩)
  obtain ⟨g8, hgg⟩ : ∃ x, w8.heap.size = x := ⟨_, rfl⟩
  have HGG := Lib.hid hgg
  have HBR8 := Lib.hid hb
  clear hb hr hcc hc hc' how hcr hbw hv hgg hp1 hp2 hp3 hp4 hp5
  go_upto_region 8 with fail
  rw [HGG.out]
  obtain ⟨V8, hV⟩ : ∃ V, w8.alloc (.cells #[.slice E1 p1 f1, .slice E2 p2 f2, .slice E3 p3 f3, .slice E4 p4 f4, .slice E5 p5 f5] 27) = V := ⟨_, rfl⟩
  have hbv : Below w8.heap.size w8 V8 := by rw [<- hV]; exact bal b0 _
  have kv : Blk V8 g8 27 #[.slice E1 p1 f1, .slice E2 p2 f2, .slice E3 p3 f3, .slice E4 p4 f4, .slice E5 p5 f5] := by rw [<- hV]; exact bk HGG.out _ _
  have hvz : w8.heap.size + 1 = V8.heap.size := by rw [<- hV]; simp
  have hbx := bl HBR8.out hbv
  have HK8 := Lib.hid (show (Below w3.heap.size w3 V8 /\ Below w.heap.size w V8 /\ Blk V8 g0 27 #[.slice A1 n1 c1, .slice A2 n2 c2, .slice A3 n3 c3, .slice A4 n4 c4, .slice A5 n5 c5] /\ Blk V8 g5 27 #[.slice B1 m1 d1, .slice B2 m2 d2, .slice B3 m3 d3, .slice B4 m4 d4, .slice B5 m5 d5]) /\ Blk V8 g8 27 #[.slice E1 p1 f1, .slice E2 p2 f2, .slice E3 p3 f3, .slice E4 p4 f4, .slice E5 p5 f5] /\ Below w8.heap.size w8 V8 /\ wA.heap.size < V8.heap.size /\ w8.heap.size < V8.heap.size from ⟨⟨bl HK7.out.1 hbx, bl HK7.out.2.1 hbx, HK7.out.2.2.1.below hbx HK7.out.2.2.1.lt, HK7.out.2.2.2.below hbx HK7.out.2.2.2.lt⟩, kv, hbv, by have := HBR8.out.size; omega, by omega⟩)
  have HK8a := Lib.hid HK8.out.1
  clear hbv kv hvz hbx HGG
  rw [hV]
  clear hV
  go_wp2_with fail
  refine (read_c X _ (by omega) (HG.out _ HK8a.out.2.1)).mono ?_
  rintro e w10 ⟨hb, ⟨k, c, L10, hr, hc, rfl, how⟩ | ⟨n, hr, _⟩⟩
  rotate_left
  ·
   exfalso
   obtain ⟨k0, h0⟩ := HX.out.2
   rw [h0] at hr; cases hr
  have hcc : c = C := by
   obtain ⟨k0, h0⟩ := HX.out.2
   rw [h0] at hr
   injection hr with h1
   injection h1 with h1
   injection h1 with _ h2
   exact h2.symm
  have hc' := hc.trans hcc
  obtain ⟨F1, h1, F2, h2, F3, h3, F4, h4, F5, h5, hv⟩ := own_vals how
  obtain ⟨r1, hp1⟩ : ∃ n, L10.fns.length = n := ⟨_, rfl⟩
  obtain ⟨r2, hp2⟩ : ∃ n, L10.casts.length = n := ⟨_, rfl⟩
  obtain ⟨r3, hp3⟩ : ∃ n, L10.nums.length = n := ⟨_, rfl⟩
  obtain ⟨r4, hp4⟩ : ∃ n, L10.texts.length = n := ⟨_, rfl⟩
  obtain ⟨r5, hp5⟩ : ∃ n, L10.types.length = n := ⟨_, rfl⟩
  rw [hp1, hp2, hp3, hp4, hp5] at hv
  have hcr := CR.of_own how.own
  have hbw := bl HK8a.out.2.1 hb
  have HEQ10 := Lib.hid (fun W (hb' : Below w10.heap.size w10 W) => HEQ.out L10 W (bl hbw hb') (hcr.grow hb') hc')
  rw [hv] at HEQ10 ⊢
  have HO10 := Lib.hid (show Own w10 V8.heap.size L10.rws /\ L10.vals.toArray = #[.slice F1 r1 h1, .slice F2 r2 h2, .slice F3 r3 h3, .slice F4 r4 h4, .slice F5 r5 h5] /\ C16 L10 from ⟨how, hv, small16 (by rw [hc']; exact HMC.out)⟩)
  obtain ⟨g10, hgg⟩ : ∃ x, w10.heap.size = x := ⟨_, rfl⟩
  have HGG := Lib.hid hgg
  have HBR10 := Lib.hid hb
  clear hb hr hcc hc hc' how hcr hbw hv hgg hp1 hp2 hp3 hp4 hp5
  go_upto_region 9 with fail
  rw [HGG.out]
  obtain ⟨V10, hV⟩ : ∃ V, w10.alloc (.cells #[.slice F1 r1 h1, .slice F2 r2 h2, .slice F3 r3 h3, .slice F4 r4 h4, .slice F5 r5 h5] 27) = V := ⟨_, rfl⟩
  have hbv : Below w10.heap.size w10 V10 := by rw [<- hV]; exact bal b0 _
  have kv : Blk V10 g10 27 #[.slice F1 r1 h1, .slice F2 r2 h2, .slice F3 r3 h3, .slice F4 r4 h4, .slice F5 r5 h5] := by rw [<- hV]; exact bk HGG.out _ _
  have hvz : w10.heap.size + 1 = V10.heap.size := by rw [<- hV]; simp
  have hbx := bl HBR10.out hbv
  have HK10 := Lib.hid (show (Below w3.heap.size w3 V10 /\ Below w.heap.size w V10 /\ Blk V10 g0 27 #[.slice A1 n1 c1, .slice A2 n2 c2, .slice A3 n3 c3, .slice A4 n4 c4, .slice A5 n5 c5] /\ Blk V10 g5 27 #[.slice B1 m1 d1, .slice B2 m2 d2, .slice B3 m3 d3, .slice B4 m4 d4, .slice B5 m5 d5]) /\ Blk V10 g8 27 #[.slice E1 p1 f1, .slice E2 p2 f2, .slice E3 p3 f3, .slice E4 p4 f4, .slice E5 p5 f5] /\ Blk V10 g10 27 #[.slice F1 r1 h1, .slice F2 r2 h2, .slice F3 r3 h3, .slice F4 r4 h4, .slice F5 r5 h5] /\ Below w10.heap.size w10 V10 /\ Below w8.heap.size w8 V10 /\ w10.heap.size < V10.heap.size from ⟨⟨bl HK8a.out.1 hbx, bl HK8a.out.2.1 hbx, HK8a.out.2.2.1.below hbx HK8a.out.2.2.1.lt, HK8a.out.2.2.2.below hbx HK8a.out.2.2.2.lt⟩, HK8.out.2.1.below hbx HK8.out.2.1.lt, kv, hbv, bl HK8.out.2.2.1 hbx, by omega⟩)
  clear hbv kv hvz hbx HGG
  rw [hV]
  clear hV
  go_wp2_with (first | (refine wpList_load_row_g (by kernel_rfl) 27 (.tmp 7) rfl g8 rfl 27 #[.slice E1 p1 f1, .slice E2 p2 f2, .slice E3 p3 f3, .slice E4 p4 f4, .slice E5 p5 f5] (0, 0) _ (HK10.out.2.1) Tryz.underlying27 rfl (by kernel_rfl) ?_) | (refine wpList_load_row_g (by kernel_rfl) 27 (.tmp 2) rfl g0 rfl 27 #[.slice A1 n1 c1, .slice A2 n2 c2, .slice A3 n3 c3, .slice A4 n4 c4, .slice A5 n5 c5] (0, 0) _ (HK10.out.1.2.2.1) Tryz.underlying27 rfl (by kernel_rfl) ?_))
  refine (HEQ8.out _ (bl HK10.out.2.2.2.2.1 b0)).mono ?_
  rintro e u1 ⟨rfl, hb⟩
  have HQ1 := Lib.hid (show Below V10.heap.size V10 u1 from hb)
  clear hb
  go_wp2_with (first | (refine wpList_load_row_g (by kernel_rfl) 27 (.tmp 10) rfl g10 rfl 27 #[.slice F1 r1 h1, .slice F2 r2 h2, .slice F3 r3 h3, .slice F4 r4 h4, .slice F5 r5 h5] (0, 0) _ ((HK10.out.2.2.1).below HQ1.out (HK10.out.2.2.1).lt) Tryz.underlying27 rfl (by kernel_rfl) ?_) | (refine wpList_load_row_g (by kernel_rfl) 27 (.tmp 2) rfl g0 rfl 27 #[.slice A1 n1 c1, .slice A2 n2 c2, .slice A3 n3 c3, .slice A4 n4 c4, .slice A5 n5 c5] (0, 0) _ ((HK10.out.1.2.2.1).below HQ1.out (HK10.out.1.2.2.1).lt) Tryz.underlying27 rfl (by kernel_rfl) ?_))
  refine (HEQ10.out _ (bl HK10.out.2.2.2.1 HQ1.out)).mono ?_
  rintro e u2 ⟨rfl, hb⟩
  have HQ2 := Lib.hid (show Below V10.heap.size V10 u2 from bl HQ1.out hb)
  clear hb
  go_wp2_with (first | (refine wpList_load_row_g (by kernel_rfl) 27 (.tmp 5) rfl g5 rfl 27 #[.slice B1 m1 d1, .slice B2 m2 d2, .slice B3 m3 d3, .slice B4 m4 d4, .slice B5 m5 d5] (0, 0) _ ((HK10.out.1.2.2.2).below HQ2.out (HK10.out.1.2.2.2).lt) Tryz.underlying27 rfl (by kernel_rfl) ?_) | (refine wpList_load_row_g (by kernel_rfl) 27 (.tmp 2) rfl g0 rfl 27 #[.slice A1 n1 c1, .slice A2 n2 c2, .slice A3 n3 c3, .slice A4 n4 c4, .slice A5 n5 c5] (0, 0) _ ((HK10.out.1.2.2.1).below HQ2.out (HK10.out.1.2.2.1).lt) Tryz.underlying27 rfl (by kernel_rfl) ?_))
  refine (HEQ5.out _ (bl HK10.out.1.1 HQ2.out)).mono ?_
  rintro e u3 ⟨rfl, hb⟩
  have HQ3 := Lib.hid (show Below V10.heap.size V10 u3 from bl HQ2.out hb)
  clear hb
  go_wp2_with (first | (refine wpList_load_row_g (by kernel_rfl) 27 (.tmp 5) rfl g5 rfl 27 #[.slice B1 m1 d1, .slice B2 m2 d2, .slice B3 m3 d3, .slice B4 m4 d4, .slice B5 m5 d5] (0, 0) _ ((HK10.out.1.2.2.2).below HQ3.out (HK10.out.1.2.2.2).lt) Tryz.underlying27 rfl (by kernel_rfl) ?_))
  refine (HSP.out _ (bl HK10.out.1.1 HQ3.out)).mono ?_
  rintro e u4 ⟨rfl, hb⟩
  have HQ4 := Lib.hid (show Below V10.heap.size V10 u4 from bl HQ3.out hb)
  clear hb
  obtain ⟨gb, hgb⟩ : ∃ x, u4.heap.size = x := ⟨_, rfl⟩
  have HGB := Lib.hid hgb
  clear hgb
  go_upto_region 12 with fail
  rw [HGB.out]
  obtain ⟨W13, hW⟩ : ∃ V, u4.alloc (.cells bagCells 59) = V := ⟨_, rfl⟩
  change Code.wp _ _ _ _ (u4.alloc (.cells bagCells 59))
  rw [hW]
  have hs13 : BagS W13 gb (fun _ => []) := by rw [<- hW, <- HGB.out]; exact bagS_new u4
  have hb13 : Below V10.heap.size V10 W13 := by rw [<- hW]; exact bal HQ4.out _
  have hsz13 : V10.heap.size <= gb := by rw [<- HGB.out]; exact HQ4.out.size
  clear hW
  have ho8 : Own W13 wA.heap.size L8.rws := HO8.out.1.grow (bl HK10.out.2.2.2.2.1 hb13)
  have ho10 : Own W13 V8.heap.size L10.rws := HO10.out.1.grow (bl HK10.out.2.2.2.1 hb13)
  have hl8 : ∀ r ∈ L8.rws, ∀ b, r.v.ownBlock = some b -> b < V8.heap.size := fun r hr b hb => by have := (HO8.out.1.lt hr b hb).2; have := HK8.out.2.2.2.2; omega
  have hz10 : V8.heap.size <= gb := by have := HBR10.out.size; have := HK10.out.2.2.2.2.2; omega
  have hl10 : ∀ r ∈ L10.rws, ∀ b, r.v.ownBlock = some b -> b < gb := fun r hr b hb => by have := (HO10.out.1.lt hr b hb).2; have := HK10.out.2.2.2.2.2; omega
  have hl8' : ∀ r ∈ L8.rws, ∀ b, r.v.ownBlock = some b -> b < gb := fun r hr b hb => Nat.lt_of_lt_of_le (hl8 r hr b hb) hz10
  have HP13 := Lib.hid (show BagS W13 gb (fun _ => []) /\ Below V10.heap.size V10 W13 /\ Own W13 wA.heap.size L8.rws /\ Own W13 V8.heap.size L10.rws from ⟨hs13, hb13, ho8, ho10⟩)
  have HLL := Lib.hid (show (∀ r ∈ L8.rws, ∀ b, r.v.ownBlock = some b -> b < V8.heap.size) /\ V8.heap.size <= gb /\ (∀ r ∈ L10.rws, ∀ b, r.v.ownBlock = some b -> b < gb) /\ (∀ r ∈ L8.rws, ∀ b, r.v.ownBlock = some b -> b < gb) /\ V10.heap.size <= gb from ⟨hl8, hz10, hl10, hl8', hsz13⟩)
  have HA8 := Lib.hid (addCode_bag gb (fun _ => []) L8 W13 hs13 (CR.of_own ho8.own) HO8.out.2.2.cb (hl8' _ (rowF_in L8)) (hl8' _ (rowC_in L8)))
  rw [HO8.out.2.1] at HA8
  have HB8 := Lib.hid (HK10.out.2.1.below hb13 HK10.out.2.1.lt)
  have HB10 := Lib.hid (HK10.out.2.2.1.below hb13 HK10.out.2.2.1.lt)
  clear hs13 hb13 ho8 ho10 hl8 hz10 hl10 hl8' hsz13
  go_wp2_with (refine wpList_load_row_g (by kernel_rfl) 27 (.tmp 7) rfl g8 rfl 27 #[.slice E1 p1 f1, .slice E2 p2 f2, .slice E3 p3 f3, .slice E4 p4 f4, .slice E5 p5 f5] (0, 0) _ (HB8.out) Tryz.underlying27 rfl (by kernel_rfl) ?_)
  refine HA8.out.mono ?_
  rintro e w14 ⟨rfl, hs, hk, hb⟩
  have HP14 := Lib.hid (show BagS w14 gb ((oCode L8).foldl add1 (fun _ => [])) /\ Below gb W13 w14 /\ Own w14 wA.heap.size L8.rws /\ Own w14 V8.heap.size L10.rws /\ Blk w14 g10 27 #[.slice F1 r1 h1, .slice F2 r2 h2, .slice F3 r3 h3, .slice F4 r4 h4, .slice F5 r5 h5] from ⟨hs, hb, own_low HP13.out.2.2.1 hb HLL.out.2.2.2.1, own_low HP13.out.2.2.2 hb HLL.out.2.2.1, hk.blk_ HB10.out (by decide)⟩)
  clear hs hk hb HA8
  have HA10 := Lib.hid (addCode_bag gb _ L10 w14 HP14.out.1 (CR.of_own HP14.out.2.2.2.1.own) HO10.out.2.2.cb (HLL.out.2.2.1 _ (rowF_in L10)) (HLL.out.2.2.1 _ (rowC_in L10)))
  rw [HO10.out.2.1] at HA10
  go_wp2_with (refine wpList_load_row_g (by kernel_rfl) 27 (.tmp 10) rfl g10 rfl 27 #[.slice F1 r1 h1, .slice F2 r2 h2, .slice F3 r3 h3, .slice F4 r4 h4, .slice F5 r5 h5] (0, 0) _ (HP14.out.2.2.2.2) Tryz.underlying27 rfl (by kernel_rfl) ?_)
  refine HA10.out.mono ?_
  rintro e w15 ⟨rfl, hs, hk, hb⟩
  have hall : Below w.heap.size w w15 := ((HK10.out.1.2.1.trans (HP13.out.2.1.mono HK10.out.1.2.1.size)).trans ((HP14.out.2.1.trans hb).mono (by have := HLL.out.2.2.2.2; have := HK10.out.1.2.1.size; omega)))
  have hbe := bagE_two (own_low HP14.out.2.2.1 hb HLL.out.2.2.2.1) HLL.out.1 (own_low HP14.out.2.2.2.1 hb HLL.out.2.2.1) HLL.out.2.2.1 (Nat.le_of_lt HK8.out.2.2.2.1) HLL.out.2.1 HO8.out.2.2 HO10.out.2.2
  have HAP := Lib.hid (apart_bag w HTAB.out gb wA.heap.size _ w15 (by rw [<- List.foldl_append] at hs; exact hs) hbe hall HK7.out.2.1.size (by have := HK8.out.2.2.2.1; have := HLL.out.2.1; have := hs.lt; omega))
  clear hs hk hb hall hbe HA10
  go_wp2_with fail
  refine HAP.out.mono ?_
  rintro e w16 ⟨rfl, hb16⟩
  have HZ := Lib.hid hb16
  clear hb16
  go_wp2_with fail
  refine (lives_c _ (HG.out _ HZ.out)).mono ?_
  rintro e w17 ⟨rfl, hb17⟩
  go_wp2_with fail
  go_ret
  exact ⟨rfl, bl HZ.out hb17⟩
end Go.Proofs.YtobplngonkdbpaaGreatDoor.D
