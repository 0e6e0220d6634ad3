/- Parts of this claim: JuH. -/
import Derived.RangeFuncWrites
import Derived.Maps.OwnIn
import Derived.Maps.StringElems
import Derived.Sort.KeysCollected
import Derived.Sort.MapsRangeIn
import Derived.Sort.OwnSorted
import Derived.Test.YtmagljnlfponaaaGreatP31
import Derived.Test.YtmagljnlfponaaaGreatP32
set_option linter.unusedVariables false
set_option linter.unusedSimpArgs false
/- JuH -/
namespace Go.Proofs.YtmagljnlfponaaaGreat.J
open Go.RowKit Go.Shelf Go.Maps Go.Sort Go.Proofs.YtmagljnlfponaaaGreat.B Go.Proofs.YtmagljnlfponaaaGreat.T Go.Proofs.YtmagljnlfponaaaGreat.K Go.Proofs.YtmagljnlfponaaaGreat.La
set_option linter.unusedVariables false
set_option linter.unusedSimpArgs false
attribute [local go_sem] Oper.semAt_some

/-- Who is blamed. -/
def nameB (l : List Site) (b : Int) : ByteArray := match l[(sideL b).toNat - 1]? with
  | some s => nameOf s (sideI b)
  | none => ⟨#[]⟩
/-- The map of names, as a datum. -/
def modD (xs : List ByteArray) : DataW Unit := xs.foldl (fun D x => D.put (.string x.data.toList) (.lit (.bool true))) (.map [])
theorem modD_snoc (pre : List ByteArray) (x : ByteArray) : modD (pre ++ [x]) = (modD pre).put (.string x.data.toList) (.lit (.bool true)) := by simp [modD]
theorem lawS : Keyed Tryz.prog 9 := string_keyed Tryz.underlying9
theorem named_bn {l : List Site} {N : Nat} (hN : l.length = N) (hNN : N ≤ 1000000) {b : Int} (hb : (1 ≤ b ∧ b ≤ (N : Int)) ∨ (1 ≤ -b ∧ -b ≤ (N : Int))) : ∃ (k : Nat) (s : Site), sideL b = (k : Int) + 1 ∧ l[k]? = some s ∧ nameB l b = nameOf s (sideI b) := by
  have h : 1 ≤ sideL b ∧ sideL b ≤ (N : Int) := by
    unfold sideL
    split
    · omega
    · split <;> omega
  have hk : (sideL b).toNat - 1 < l.length := by omega
  refine ⟨(sideL b).toNat - 1, l[(sideL b).toNat - 1], by omega, List.getElem?_eq_getElem hk, ?_⟩
  unfold nameB
  rw [List.getElem?_eq_getElem hk]

theorem KpJ.grown {g : Nat} {W W' : World} (hg : W.grownBy W' (some g)) : KpJ g W W' := ⟨hg.size, fun k o hk hko _ => (hg.block k (Array.getElem?_eq_some_iff.1 hko).1 (by simpa using hk)).trans hko⟩
theorem isMap_modD (xs : List ByteArray) : ∀ D : DataW Unit, Maps.IsMap D → Maps.IsMap (xs.foldl (fun D x => D.put (.string x.data.toList) (.lit (.bool true))) D) := by
  induction xs with
  | nil => intro D h; exact h
  | cons a xs ih => intro D h; exact ih _ (h.put _ _)
theorem has_fold_mod (x : List UInt8) (xs : List ByteArray) : ∀ D : DataW Unit, Maps.IsMap D → (Maps.has (xs.foldl (fun D x => D.put (.string x.data.toList) (.lit (.bool true))) D) (.string x) = true ↔ Maps.has D (.string x) = true ∨ ∃ y ∈ xs, y.data.toList = x) := by
  induction xs with
  | nil => intro D h; simp
  | cons a xs ih =>
    intro D h
    rw [List.foldl_cons, ih _ (h.put _ _)]
    by_cases e : a.data.toList = x
    · rw [← e, Maps.has_put_same h (by exact trivial)]
      simp
    · rw [Maps.has_put_other (fun h => e (by cases h; rfl))]
      simp [e]
theorem has_modD (xs : List ByteArray) (x : List UInt8) : Maps.has (modD xs) (.string x) = true ↔ ∃ y ∈ xs, y.data.toList = x := by
  unfold modD
  rw [has_fold_mod x xs _ Maps.isMap_empty]
  have h0 : Maps.has (.map [] : DataW Unit) (.string x) = false := rfl
  rw [h0]
  simp
theorem size_fold_mod (xs : List ByteArray) : ∀ D : DataW Unit, Maps.Tidy D → Maps.size (xs.foldl (fun D x => D.put (.string x.data.toList) (.lit (.bool true))) D) ≤ Maps.size D + xs.length := by
  induction xs with
  | nil => intro D h; exact Nat.le_refl _
  | cons a xs ih =>
    intro D h
    rw [List.foldl_cons]
    have hk : WideAt.IsKeyLit (.string a.data.toList) := by exact trivial
    have h1 := ih _ (h.put hk (.lit (.bool true)))
    rw [Maps.size_put h] at h1
    rw [List.length_cons]
    split at h1 <;> omega
theorem size_modD (xs : List ByteArray) : Maps.size (modD xs) ≤ xs.length := by
  have h := size_fold_mod xs (.map []) Maps.tidy_empty
  have h0 : Maps.size (.map [] : DataW Unit) = 0 := rfl
  rw [h0, Nat.zero_add] at h
  exact h
/-- x among what rises, ahead of place k. -/
def insAt (zs : List (List UInt8)) (k : Nat) (x : List UInt8) : List (List UInt8) := zs.take k ++ x :: zs.drop k
theorem insAt_lo {zs : List (List UInt8)} {m : Nat} {z x : List UInt8} (hz : zs[m]? = some z) : (insAt zs (m + 1) x)[m]? = some z := by
  have hl : m < zs.length := (List.getElem?_eq_some_iff.1 hz).1
  unfold insAt
  rw [List.getElem?_append_left (by rw [List.length_take]; omega), List.getElem?_take, if_pos (by omega)]
  exact hz
theorem insAt_at {zs : List (List UInt8)} {k : Nat} {x : List UInt8} (hk : k ≤ zs.length) : (insAt zs k x)[k]? = some x := by
  unfold insAt
  rw [List.getElem?_append_right (by rw [List.length_take]; omega), List.length_take, Nat.min_eq_left hk, Nat.sub_self]
  rfl
theorem insAt_step {zs : List (List UInt8)} {m : Nat} {z x : List UInt8} (hz : zs[m]? = some z) : ((insAt zs (m + 1) x).set (m + 1) z).set m x = insAt zs m x := by
  have hl : m < zs.length := (List.getElem?_eq_some_iff.1 hz).1
  have ht : zs.take (m + 1) = zs.take m ++ [z] := by rw [List.take_add_one, hz]; rfl
  have hd : zs.drop m = z :: zs.drop (m + 1) := by rw [List.drop_eq_getElem_cons hl]; congr 1; rw [List.getElem?_eq_getElem hl] at hz; exact Option.some.inj hz
  have hlt : (zs.take m).length = m := by rw [List.length_take]; omega
  unfold insAt
  rw [ht, hd, List.append_assoc]
  rw [List.set_append_right _ _ (by rw [hlt]; omega), hlt, show m + 1 - m = 1 by omega, List.set_append_right _ _ (by rw [hlt]; exact Nat.le_refl _), hlt, Nat.sub_self]
  rfl
theorem insAt_len {zs : List (List UInt8)} {k : Nat} {x : List UInt8} : (insAt zs k x).length = zs.length + 1 := by
  unfold insAt; simp; omega
theorem insAt_perm {zs : List (List UInt8)} {k : Nat} {x : List UInt8} : (insAt zs k x).Perm (zs ++ [x]) := by
  unfold insAt
  refine List.perm_middle.trans ?_
  rw [List.take_append_drop]
  exact (List.perm_append_singleton x zs).symm
theorem pair_at {zs : List (List UInt8)} {r : List UInt8 → List UInt8 → Prop} (h : zs.Pairwise r) {i j : Nat} {a b : List UInt8} (hij : i < j) (ha : zs[i]? = some a) (hb : zs[j]? = some b) : r a b := by
  obtain ⟨h1, h2⟩ := List.getElem?_eq_some_iff.1 ha
  obtain ⟨h3, h4⟩ := List.getElem?_eq_some_iff.1 hb
  rw [← h2, ← h4]
  exact (List.pairwise_iff_getElem.1 h) i j h1 h3 hij
theorem insAt_sorted {zs : List (List UInt8)} {k : Nat} {x : List UInt8} (hk : k ≤ zs.length) (hs : zs.Pairwise (fun a b => Op.bytesLess a b = true)) (hlo : ∀ j z, j < k → zs[j]? = some z → Op.bytesLess z x = true) (hhi : ∀ j z, k ≤ j → zs[j]? = some z → Op.bytesLess x z = true) :
    (insAt zs k x).Pairwise (fun a b => Op.bytesLess a b = true) := by
  unfold insAt
  rw [List.pairwise_append]
  have hlo' : ∀ a ∈ zs.take k, Op.bytesLess a x = true := fun a ha => by
    obtain ⟨j, hj, rfl⟩ := List.mem_iff_getElem.1 ha
    rw [List.length_take] at hj
    refine hlo j _ (by omega) ?_
    rw [List.getElem_take]
    exact List.getElem?_eq_getElem (by omega)
  have hhi' : ∀ a ∈ zs.drop k, Op.bytesLess x a = true := fun a ha => by
    obtain ⟨j, hj, rfl⟩ := List.mem_iff_getElem.1 ha
    rw [List.length_drop] at hj
    refine hhi (k + j) _ (by omega) ?_
    rw [List.getElem_drop]
    exact List.getElem?_eq_getElem (by omega)
  refine ⟨hs.sublist (List.take_sublist _ _), List.pairwise_cons.2 ⟨hhi', hs.sublist (List.drop_sublist _ _)⟩, ?_⟩
  intro a ha b hb
  rcases List.mem_cons.1 hb with rfl | hb
  · exact hlo' a ha
  · exact La.less_trans _ _ _ (hlo' a ha) (hhi' b hb)
theorem ranges_set {W : World} {H : Type} {P : Program} {k : TypeId} {R : Value → Option (DataW H × List MemPlace)} {b r n : Nat} {D : DataW H} {left : Lit → Bool} {cnt gr i j : Nat} (h : W.ranges P k R b r n D left cnt) (hb : b ≠ gr) (hr : r ≠ gr) (u v : Value) :
    ((W.setCell ⟨gr, i, none⟩ u).setCell ⟨gr, j, none⟩ v).ranges P k R b r n D left cnt ∧ True := by
  have hg : ∀ (W : World) (p : Addr) (u : Value), W.grownBy (W.setCell p u) (some p.block) := fun W p u => ⟨rfl, rfl, rfl, by rw [World.size_setCell]; exact Nat.le_refl _, fun k hk hne => Below.heap_setCell W p u k (fun e => hne (by rw [e]))⟩
  exact ⟨(h.kept (hg W ⟨gr, i, none⟩ u) (by simpa using hb) (by simpa using hr)).kept (hg _ ⟨gr, j, none⟩ v) (by simpa using hb) (by simpa using hr), trivial⟩
theorem own_set {W : World} {base g n cap : Nat} {e : TypeId} {xs : List Value} (h : W.ownsRow base e 1 (.slice (some ⟨g, 0, none⟩) n cap) n xs) (hn : 0 < n) (k : Nat) (u : Value) : (W.setCell ⟨g, k, none⟩ u).ownsRow base e 1 (.slice (some ⟨g, 0, none⟩) n cap) n (xs.set k u) := by
  refine ⟨by rw [List.length_set]; exact h.1, ?_⟩
  rcases h.2 with ⟨hv, _⟩ | ⟨g', cap', cur, hv, hb, hg, hnc, hcm, hcs, ht⟩
  · cases hv
  · injection hv with hA _ hC
    injection hA with hA
    injection hA with hA
    subst hA
    refine .inr ⟨g, cap', cur.setIfInBounds k u, by rw [hC], hb, ?_, hnc, hcm, by simpa using hcs, ?_⟩
    · simp [World.setCell, Array.getElem?_modify, hg]
    · rw [← ht]
      simp [List.take_set]
/-- Which modules: each once, rising. -/
def ModsIn (l : List Site) (bl : List Int) (ms : List ByteArray) : Prop := ms.Pairwise (fun x y => Op.bytesLess x.data.toList y.data.toList = true) ∧ ∀ x, x ∈ ms ↔ x ∈ bl.map (nameB l)
def ModsQ (R : Int × List Tn) (l : List Site) (w : World) (e : Ending) (w' : World) : Prop := Below w.heap.size w w' ∧ if R.1 = 0 then ∃ v ms, e = .returned (.tuple #[v, .int .i64 0]) ∧ w'.ownsRow w.heap.size 9 1 v ms.length (ms.map .string) ∧ ModsIn l (blL R.2) ms
  else e = .returned (.tuple #[.slice none 0 0, .int .i64 R.1])

set_option maxRecDepth 100000 in
set_option maxHeartbeats 2000000 in
theorem Mods_bad (L : List Tn) (A : Option Addr) (c : Nat) (T : ByteArray) (B : Option Addr) (l : List Site) (d : Nat) (w : World) (hN : L.length ≤ 1000000) (hNN : l.length ≤ 1000000) (hLc : L.length ≤ c) (hS : ∀ x ∈ L, x.small) (hL : LT w w.heap.size A L) (hR : (chkP L T l.length).1 ≠ 0) :
    Calls Tryz.prog 10 #[.agg #[.slice A L.length c, .string T, .slice B l.length d]] w fun e w' => ModsQ (chkP L T l.length) l w e w' := by
  have hc := fun W (hW : LT W W.heap.size A L) => check_j L A c T B l.length d W hN hNN hLc hS hW
  have HA := Lib.hid (show ∀ W, Below w.heap.size w W → LT W W.heap.size A L from fun W hb => (hL.below hb).fresh (Nat.le_refl _))
  have hc0 := hc (w.alloc (.cells #[.slice A L.length c, .string T, .slice B l.length d] 25)) (HA.out _ (bal b0 _))
  unfold ModsQ
  unfold ChkQ at hc0
  simp only [if_neg hR] at hc0 ⊢
  have e1 : ((chkP L T l.length).1 != 0) = true := by simpa using hR
  generalize (chkP L T l.length).1 = E at *
  clear hc hL hS hLc hR HA
  go_enter Tryz.func10, Tryz.ntmps10
  go_wp2_with fail
  (refine hc0.mono ?_); rintro e w1 ⟨hb, rfl⟩
  have HB := Lib.hid hb
  clear hb hc0
  go_wp2_with fail
  go_ret2
  exact ⟨bl (bal b0 _) HB.out, rfl⟩

set_option maxRecDepth 100000 in
set_option maxHeartbeats 4000000 in
theorem Mods_ok (L : List Tn) (A : Option Addr) (c : Nat) (T : ByteArray) (B : Option Addr) (sl : List Site) (d : Nat) (w : World) (hN : L.length ≤ 1000000) (hNN : sl.length ≤ 1000000) (hLc : L.length ≤ c) (hS : ∀ x ∈ L, x.small) (hL : LT w w.heap.size A L)
    (hB : Sl w w.heap.size 5 B sl.length (cells sl)) (hsm : ∀ s ∈ sl, s.mo.size ≤ maxLen ∧ s.ex.size ≤ maxLen) (hR : (chkP L T sl.length).1 = 0) :
    Calls Tryz.prog 10 #[.agg #[.slice A L.length c, .string T, .slice B sl.length d]] w fun e w' => ModsQ (chkP L T sl.length) sl w e w' := by
  have hc := fun W (hW : LT W W.heap.size A L) => check_j L A c T B sl.length d W hN hNN hLc hS hW
  have HA := Lib.hid (show ∀ W, Below w.heap.size w W → LT W W.heap.size A L from fun W hb => (hL.below hb).fresh (Nat.le_refl _))
  have hc0 := hc (w.alloc (.cells #[.slice A L.length c, .string T, .slice B sl.length d] 25)) (HA.out _ (bal b0 _))
  obtain ⟨hl1, _, hcst⟩ := chkP_ok hR
  have hM : (laidL L).length ≤ L.length := by have := laid_le L L.length; rwa [List.take_of_length_le (Nat.le_refl _)] at this
  unfold ModsQ
  unfold ChkQ at hc0
  simp only [if_pos hR, hl1] at hc0 ⊢
  have HNM := Lib.hid (show ∀ W (b : Int), Below w.heap.size w W → ((1 ≤ b ∧ b ≤ (sl.length : Int)) ∨ (1 ≤ -b ∧ -b ≤ (sl.length : Int))) → Calls Tryz.prog 29 #[.slice B sl.length d, .int .i64 b] W fun e w' => e = .returned (.tuple #[.string (nameB sl b), .int .i64 0]) ∧ Below W.heap.size W w' from fun W b hb hx => by
    obtain ⟨k, s, h1, h2, h3⟩ := named_bn rfl hNN hx
    rw [h3]
    exact named_yes sl B d k s b W (by omega) (by omega) (by omega) ((hB.below hb).more hb.size) h1 h2)
  have HSM := Lib.hid (show ∀ b, (nameB sl b).size ≤ maxLen from fun b => by
    unfold nameB
    split
    · rename_i s hs
      have := hsm s (List.mem_of_getElem? hs)
      unfold nameOf
      split
      · exact this.2
      · exact this.1
    · exact Nat.zero_le _)
  clear hc hL hS hLc hR HA hl1 hB hsm
  generalize laidL L = l at *
  have HC := Lib.hid (And.intro hcst hM)
  clear hcst hM
  obtain ⟨M, hMl⟩ : ∃ M, l.length = M := ⟨_, rfl⟩
  rw [hMl] at HC hc0
  have HM := Lib.hid hMl
  clear hMl
  obtain ⟨N, hNl⟩ : ∃ N, sl.length = N := ⟨_, rfl⟩
  rw [hNl] at HC hc0 HNM hNN
  rw [hNl]
  have HSL := Lib.hid hNl
  clear hNl
  have hmm := @run_makeMap Tryz.prog
  refine (callsIn_wide (n := 3)).1 ?_
  refine callsIn_of_wp_marks Tryz.func10 rfl trivial ?_ rfl
  simp only [Tryz.ntmps10, List.size_toArray, List.length_cons, List.length_nil, Nat.reduceAdd, Nat.reduceSub, Array.replicate_succ, Array.replicate_zero, List.push_toArray, List.append_toArray, List.nil_append, List.cons_append]
  gi_wp2
  refine ⟨trivial, (callsIn_wide.2 hc0).mono ?_⟩
  rintro e w1 ⟨hb1, v, rfl, ho⟩
  obtain ⟨Av, cv, rfl, hv1, hv2⟩ := own_shape ho
  obtain ⟨g, hg⟩ : ∃ g, w1.heap.size = g := ⟨_, rfl⟩
  have hbx : Blk w1 w.heap.size 25 #[.slice A L.length c, .string T, .slice B N d] := (Blk.new w _ _).below hb1 (by simp)
  have hbw : Below w.heap.size w w1 := bl (bal b0 _) hb1
  have HO := Lib.hid (And.intro ho (And.intro hbw (And.intro hg hbx)))
  clear ho hbw hb1 hbx hc0
  gi_wp2
  obtain ⟨W2, hW2⟩ : ∃ W2, (w1.alloc (.map #[] 0)).alloc (.cells #[.map (some g)] 78) = W2 := ⟨_, rfl⟩
  rw [hW2]
  have hg := HO.out.2.2.1
  have z2 : W2.heap.size = g + 2 := by rw [← hW2]; simp only [World.size_alloc]; omega
  have bg : W2.ownsMap Tryz.prog 9 (plainElem (H := Unit) Tryz.prog 4) g 0 (modD []) := by rw [← hW2, ← hg]; exact (World.ownsMap_made w1 Tryz.prog 9 (plainElem (H := Unit) Tryz.prog 4)).alloc _
  have bo : Blk W2 (g + 1) 78 #[.map (some g)] := by rw [← hW2, ← hg]; have := Blk.new (w1.alloc (.map #[] 0)) 78 #[.map (some w1.heap.size)]; simpa only [World.size_alloc] using this
  have hb12 : Below w1.heap.size w1 W2 := by rw [← hW2]; exact bal (bal b0 _) _
  have hgw : w.heap.size ≤ g := by have := HO.out.2.1.size; omega
  have hbp : Blk W2 w.heap.size 25 #[.slice A L.length c, .string T, .slice B N d] := HO.out.2.2.2.below hb12 HO.out.2.2.2.lt
  have hpg : w.heap.size < g := by have := HO.out.2.2.2.lt; omega
  have H2 := Lib.hid (And.intro z2 (And.intro bg (And.intro bo (And.intro (bl HO.out.2.1 hb12) (And.intro (own_below HO.out.1 hb12) (And.intro hgw (And.intro hg (And.intro hbp hpg))))))))
  clear z2 bg bo hb12 hgw hg hW2 hbp hpg
  refine ⟨trivial, (callsIn_wide.2 (unsafe_any Av M cv W2)).mono ?_⟩
  rintro e w3 ⟨rfl, hw3⟩
  obtain ⟨h, hh⟩ : ∃ h, W2.heap.size = h := ⟨_, rfl⟩
  rw [hh]
  have H3 := Lib.hid (And.intro hw3 hh)
  clear hh hw3
  gi_wp2
  obtain ⟨hw3, hh⟩ := H3.out
  obtain ⟨z2, bg, bo, hbw2, ho2, hgw, hg, hbp, hpg⟩ := H2.out
  have hb23 : Below W2.heap.size W2 w3 := by rw [hw3]; exact bal b0 _
  have bh : Blk w3 h 71 #[.slice Av M cv] := by rw [hw3, ← hh]; exact Blk.new _ _ _
  have z3 : w3.heap.size = g + 3 := by rw [hw3, World.size_alloc, z2]
  have bg3 : w3.ownsMap Tryz.prog 9 (plainElem (H := Unit) Tryz.prog 4) g 0 (modD []) := by rw [hw3]; exact bg.alloc _
  have bo3 := bo.below hb23 bo.lt
  have bp3 := hbp.below hb23 hbp.lt
  have ho3 := own_below ho2 hb23
  have hbw3 := bl hbw2 hb23
  have hgs : g < w3.heap.size := by omega
  have hhs : h < w3.heap.size := by omega
  have hhg : h ≠ g := by omega
  obtain rfl := HM.out
  have hla : LdAt g w3 Av l := by
    rcases ho2.2 with ⟨_, h0⟩ | ⟨b, cap, cur, hv, hbb, hbk, _⟩
    · exact .inl (List.eq_nil_of_length_eq_zero h0)
    · injection hv with hA _ _
      have hlt : b < w1.heap.size := by
        rcases HO.out.1.2 with ⟨hv', h0⟩ | ⟨b', cap', cur', hv', _, hbk', _⟩
        · injection hv' with hA' _ _; rw [hA] at hA'; cases hA'
        · injection hv' with hA' _ _
          rw [hA] at hA'
          injection hA' with hA'
          injection hA' with hA'
          rw [hA']
          exact (Array.getElem?_eq_some_iff.1 hbk').1
      refine .inr ⟨b, hA, by omega, by omega, fun j u hu => ?_⟩
      have := ho3.cells (g := b) (by rw [hA]; rfl) j u hu
      rwa [add_flat, Nat.zero_add] at this
  clear bg bo ho2 hbw2 hb23 hw3 z2 hbp
  have HG := Lib.hid (And.intro hgw hpg)
  refine wpIn_rangeFunc_ownG (n := 3) rfl (by omega) (gf := 40) (lb := #[.pointer (some ⟨h, 0, none⟩)]) rfl trivial (enters_of Tryz.func40 (by kernel_rfl) rfl)
    (unsafe1_stops 2 g h (by omega) Av cv l (Nat.le_trans HC.out.2 hN) N HC.out.1 hhg w3 hgs hhs ((bh.cell 0).trans rfl) hla)
    (fun h1 h2 => h1.trans h2) (fun W q o o' hq ho hc _ => ⟨by simp, fun k o2 hk hko hkc => (World.putObj_heap_other (fun e => by subst e; rw [ho] at hko; cases hko; rw [hc] at hkc; cases hkc)).trans hko⟩) (Below.refl _ _) (fun _ => rfl)
    (fun pre W => (W.ownsMap Tryz.prog 9 (plainElem (H := Unit) Tryz.prog 4) g pre.length (modD (pre.map fun b => nameB sl b.v)) ∧ Blk W (g + 1) 78 #[.map (some g)] ∧ Blk W w.heap.size 25 #[.slice A L.length c, .string T, .slice B N d]) ∧ Below w.heap.size w W)
    (fun _ _ _ => False)
    (OwnFrom.and (fun s X Y row hs hg hr => ⟨hs.1.kept hg (fun e => by have := (hr _ e.symm).1; omega), blk_kept hs.2.1 hg (fun r e => (hr r e).2), blk_kept hs.2.2 hg (fun r e => (hr r e).2)⟩) (ownFrom_below (Nat.le_refl _) (by omega)))
    (fun _ _ _ _ _ hs _ _ => hs)
    ⟨⟨bg3, bo3, bp3⟩, hbw3⟩
    (fun x => { tmps := #[.agg #[.slice A L.length c, .string T, .slice B N d], .pointer (some ⟨w.heap.size, 0, none⟩), .slice none 0 0, .int .i64 0, .slice Av l.length cv, .int .i64 0, .pointer (some ⟨g + 1, 0, none⟩), .int .i64 x.v, undef, undef, undef, undef, undef, .tuple #[.slice Av l.length cv, .int .i64 0], .agg #[.slice A L.length c, .string T, .slice B N d], .tuple #[.slice Av l.length cv, .int .i64 0], .slice Av l.length cv, .int .i64 0, .int .i64 0, .bool false, undef, .map (some g), .slice Av l.length cv, .func (.func 40) #[] #[.pointer (some ⟨h, 0, none⟩)], .int .i64 x.v, undef, undef, undef, undef, undef, undef, undef, undef, undef, undef, undef, undef, undef, undef, undef, undef, undef, undef, undef, undef, undef, undef, undef, undef, undef, undef, undef, undef, undef, undef, undef, undef, undef, undef, undef, undef, undef, undef, undef, undef, undef, undef, undef, undef, undef, undef, undef, undef], defers := [] }) ?assign ?body ?done ?stop
  case assign =>
    intro q x W K hK
    gi_wp2
    exact hK
  case body =>
    rintro q pre x W ⟨⟨hown, k2, kp⟩, hbw⟩ hpl
    have o0 : W.cell? ⟨g + 1, 0, none⟩ = some (.map (some g)) := (k2.cell 0).trans rfl
    have p2 : W.cell? ⟨w.heap.size, 2, none⟩ = some (.slice B N d) := (kp.cell 2).trans rfl
    have hcall := HNM.out W x.v hbw x.h
    have K1 := Lib.hid (And.intro hown (And.intro k2 (And.intro kp hbw)))
    obtain ⟨xv, hxv⟩ : ∃ xv, x.v = xv := ⟨_, rfl⟩
    dsimp only
    rw [hxv] at hcall ⊢
    have HX := Lib.hid hxv
    clear hxv hown k2 kp hbw
    gi_wp2
    refine ⟨trivial, (CallsIn.inRound q (callsIn_wide.2 hcall)).mono ?_⟩
    rintro e W4 ⟨rfl, hb4⟩
    obtain ⟨hown, k2, kp, hbw⟩ := K1.out
    have hown4 : W4.ownsMap Tryz.prog 9 (plainElem (H := Unit) Tryz.prog 4) g pre.length (modD (pre.map fun b => nameB sl b.v)) := hown.kept (grown_of hb4) (by simp)
    have k24 := k2.below hb4 k2.lt
    have kp4 := kp.below hb4 kp.lt
    have o4 : W4.cell? ⟨g + 1, 0, none⟩ = some (.map (some g)) := (k24.cell 0).trans rfl
    have hkey := Go.WideMaps.keyOf_string_mk Tryz.underlying9 (HSM.out xv)
    have HB4 := Lib.hid (And.intro hb4 (And.intro k24 (And.intro kp4 (And.intro (bl hbw hb4) hown))))
    clear hb4 k24 kp4 hown k2 kp hbw o0 p2 hcall
    gi_wp2_with (gi_at_mapUpdate; refine wpListIn_mapUpdate_own _ rfl _ _ _ 78 rfl 9 4 lawS Tryz.underlying78 _ g pre.length _ rfl hown4 (by unfold maxLen; have := HC.out.2; omega) _ _ _ rfl rfl hkey _ [] (plainElem_bool Tryz.underlying4 true) ?_; intro w5 hown5 hgrow5)
    obtain ⟨hb4, k24, kp4, hbw4, hown⟩ := HB4.out
    have hgw := HG.out
    refine ⟨KeepsFrom.trans (⟨hb4.size, fun k o _ hk _ => (hb4.block k (Array.getElem?_eq_some_iff.1 hk).1).trans hk⟩ : KeepsFrom w3.heap.size W W4) (KeepsFrom.of_grownBy hgrow5 (fun j e => by cases e; omega)), (KpJ.below hb4).trans (KpJ.grown hgrow5), ⟨?_, k24.grown hgrow5 (by simp), kp4.grown hgrow5 (by simp; omega)⟩, hbw4.grown hgrow5 hbw4.size (fun j e => by cases e; omega)⟩
    rw [List.map_append, List.map_cons, List.map_nil, HX.out, modD_snoc, List.length_append]
    exact hown5
  case done =>
    rintro D ys W hD hS ⟨⟨hown, k2, kp⟩, hbw⟩ hK
    have o0 : W.cell? ⟨g + 1, 0, none⟩ = some (.map (some g)) := (k2.cell 0).trans rfl
    obtain ⟨nm, hnm⟩ : ∃ nm, (ys.map fun b => nameB sl b.v) = nm := ⟨_, rfl⟩
    rw [hnm] at hown
    have hnl : nm.length ≤ 2000000 := by
      rw [← hnm, List.length_map, ← List.length_map (f := Bn.v), hS]
      have := blL_len l
      have := HC.out.2
      omega
    have hbl := hown.lt
    have hDW := (Array.getElem?_eq_some_iff.1 hK).1
    have hsz := Nat.le_trans (size_modD nm) hnl
    obtain ⟨i0, hi0, hz0, hz1, hz2⟩ := info_parts info9
    have KD := Lib.hid (And.intro hK (And.intro hbw (And.intro hD (And.intro hnm (And.intro hS hDW)))))
    obtain ⟨yl, hyl⟩ : ∃ yl, ys.length = yl := ⟨_, rfl⟩
    rw [hyl] at hown
    obtain ⟨D0, hD0⟩ : ∃ D0, modD nm = D0 := ⟨_, rfl⟩
    rw [hD0] at hown hsz
    have KD0 := Lib.hid hD0
    have HBL := Lib.hid hbl
    clear hK hbw hD hnm hS k2 kp hyl hnl hD0 hDW hbl
    gi_wp2_with (first
      | (gi_at_range; refine wpListIn_range_own _ rfl _ 78 rfl 9 4 lawS Tryz.underlying78 _ g yl _ rfl hown ?_; intro w0 hrg0 hg0 hs0)
      | gi_in)
    clear hs0
    gi_loopw [10] (fun v wr => ∃ (left : Lit → Bool) (cnt : Nat) (ss zs : List (List UInt8)), wr.ranges Tryz.prog 9 (plainElem Tryz.prog 4) g W.heap.size yl D0 left cnt ∧ ss.length + cnt ≤ Maps.size D0 ∧
        wr.ownsRow W.heap.size 9 1 v zs.length (zs.map encStr) ∧ Collected D0 left ss ∧ Hid (zs.Perm ss ∧ zs.Pairwise (fun a b => Op.bytesLess a b = true)) ∧ Below W.heap.size W wr)
      (fun _ wr => wr.rangeLeft g W.heap.size)
    case atStart =>
      exact ⟨_, _, [], [], hrg0, by simp, World.ownsRow_nil _ _ _ _, Collected.start D0, Lib.hid ⟨List.Perm.refl _, List.Pairwise.nil⟩, (Below.refl _ _).grown hg0 (Nat.le_refl _) (fun j hj => by cases hj)⟩
    case round =>
      obtain ⟨left, cnt, ss, zs, hrg, hcs, hrow, hCl, HZ, hnx⟩ := hrel
      gi_wp2_with (first
        | (gi_at_next; refine wpListIn_next_ranges _ rfl _ rfl 9 lawS (plainElem Tryz.prog 4) encStr (fun v : Value => v) (fun key kl hk => by obtain ⟨x, hx, _⟩ := Maps.keyOf_str Tryz.underlying9 hk; exact ⟨x, hx⟩) (fun v y hv => ⟨v, rfl⟩) g W.heap.size yl _ _ _ rfl hrg ?_ ?_)
        | gi_in)
      · intro hc0 hl0
        obtain ⟨zA, zc, rfl, hz1', hz2'⟩ := own_shape hrow
        have HF := Lib.hid (And.intro hrow (And.intro hCl (And.intro hl0 hnx)))
        clear hrow hCl hl0 hnx hrg hcs hc0
        gi_wp2
        obtain ⟨hrow, hCl, hl0, hnx⟩ := HF.out
        obtain ⟨hK, hbw, hD, hnm, hS, hDW⟩ := KD.out
        have hK2 : wr.heap[D]? = some (.deferred (some [])) := (hnx.block D hDW).trans hK
        refine ⟨by simp, .inl ⟨_, _, rfl, run_takeDeferred hK2, ?_⟩⟩
        have hgw := HG.out.1
        have hwG : w.heap.size ≤ W.heap.size := hbw.size
        have hms : ModsIn sl (blL l) (zs.map fun z => (⟨z.toArray⟩ : ByteArray)) := by
          refine ⟨List.pairwise_map.2 (HZ.out.2.imp fun h => h), fun x => ?_⟩
          have hmem : x ∈ zs.map (fun z => (⟨z.toArray⟩ : ByteArray)) ↔ x.data.toList ∈ zs := by
            rw [List.mem_map]
            constructor
            · rintro ⟨z, hz, rfl⟩; exact hz
            · intro h; exact ⟨_, h, ByteArray.ext (by simp)⟩
          rw [hmem, HZ.out.1.mem_iff, hCl.2, hl0, ← KD0.out, has_modD, ← hnm, ← hS]
          constructor
          · rintro ⟨⟨y, hy, e⟩, _⟩
            have : y = x := ByteArray.ext (Array.toList_inj.1 e)
            subst this
            simpa using hy
          · intro h
            exact ⟨⟨x, by simpa using h, rfl⟩, rfl⟩
        refine ⟨.tuple #[.slice zA zs.length zc, .int .i64 0], by simp [results, Tryz.results10, go_sem], (hbw.trans (hnx.mono hwG)).trans (belowK_b (w := w) (Nat.le_refl _) wr D _ _ (by have := hgw; omega) hK2 rfl rfl), _, _, rfl, ?_, hms⟩
        rw [List.length_map, List.map_map]
        exact own_less (own_but hrow fun b hb _ => World.putObj_heap_other (by omega)) hwG
      · intro x c kl yd yp w2 cnt2 hkey hlk hv hat hrg2 hlt hg2 hs2 hen
        obtain ⟨x', ex, rfl, _⟩ := Maps.keyOf_str Tryz.underlying9 hkey
        obtain rfl : x = x' := encStr_inj ex
        have hrow2 := hrow.kept hg2 (Or.inr (row_ne_iter hrow hrg).symm)
        clear hs2
        have hrow2a := fun o => hrow2.alloc o
        obtain ⟨zA, zc, rfl, hz1', hz2'⟩ := own_shape hrow
        have hzl : zs.length ≤ 2000000 := by have := HZ.out.1.length_eq; omega
        have HR2 := Lib.hid (And.intro hrow2 (And.intro hrow (And.intro hrg hrg2)))
        have HC2 := Lib.hid (And.intro hCl (And.intro hlk (And.intro hat (And.intro hlt (And.intro hg2 (And.intro hnx hcs))))))
        have hbase : W.heap.size ≤ (w2.alloc (.cells #[encStr x] 9)).heap.size := by have := hnx.size; have := hg2.size; simp; omega
        clear hrow2 hrow hrg hrg2 hCl hlk hat hlt hg2 hnx hkey
        gi_wp2_with (first
          | (gi_at_builtin; refine wpListIn_append_own _ rfl _ _ 37 rfl W.heap.size 9 i0 (.string ⟨#[]⟩) 1 16 Tryz.underlying37 hi0 hz0 hz1 hz2 rfl (by decide) _ _ _ rfl (hrow2a _) ⟨w2.heap.size, 0, none⟩ 1 1 [encStr x] rfl rfl (cell_one_new _ _ _) (by simp [Value.oneCell', encStr]) (by unfold maxLen at *; omega) (by omega) hbase ?_; intro v' w3' hown' hg3 hnil3)
          | gi_in)
        obtain ⟨gr, gc, rfl, hgb, hgl⟩ := hown'.form (by omega)
        obtain ⟨hrow2, hrow, hrg, hrg2⟩ := HR2.out
        obtain ⟨hCl, hlk, hat, hlt, hg2, hnx, hcs⟩ := HC2.out
        have hrg3 := (hrg2.alloc (.cells #[encStr x] 9)).kept hg3 (row_ne_low hrow2 HBL.out) (row_ne_iter hrow2 hrg2)
        have hnx3 : Below W.heap.size W w3' := ((hnx.grown hg2 hnx.size (fun j hj => by cases hj; exact Nat.le_refl _)).alloc (by have := hnx.size; have := hg2.size; omega) _).grown hg3 hbase (fun j hj => (hrow2.lt j hj).1)
        have hin : insAt zs zs.length x = zs ++ [x] := by simp [insAt]
        have H9 := Lib.hid (And.intro hlt (And.intro hCl (And.intro hlk (And.intro hat (And.intro hcs hrg)))))
        clear hrow2 hrow hrg2 hCl hlk hat hlt hg2 hnx hcs hrg hg3 hnil3 hrow2a hbase HR2 HC2
        obtain ⟨WR, hWR⟩ : ∃ WR, WR = wr := ⟨_, rfl⟩
        rw [← hWR] at H9
        have HWR := Lib.hid hWR
        clear hWR
        gi_loopw [12] (fun i wi => ∃ k : Nat, k ≤ zs.length ∧ i = .int .i64 k ∧ wi.ownsRow W.heap.size 9 1 (.slice (some ⟨gr, 0, none⟩) (zs.length + 1) gc) (zs.length + 1) ((insAt zs k x).map encStr) ∧ Hid (∀ j z, k ≤ j → zs[j]? = some z → Op.bytesLess x z = true) ∧
            Hid (wi.ranges Tryz.prog 9 (plainElem Tryz.prog 4) g W.heap.size yl D0 (fun z => left z && !z.sameKey (.string x)) cnt2) ∧ Below W.heap.size W wi)
          (fun i _ => (intOf i).toNat)
        case atStart => exact ⟨zs.length, Nat.le_refl _, rfl, by rw [hin, List.map_append]; exact hown', Lib.hid (fun j z hj hz => by rw [List.getElem?_eq_none (by omega)] at hz; cases hz), Lib.hid hrg3, hnx3⟩
        case round =>
          clear hin hown' hrg3 hnx3
          obtain ⟨k, hk, rfl, ho, HL, HR, hnx⟩ := hrel
          have fin : Hid (∀ j z, j < k → zs[j]? = some z → Op.bytesLess z x = true) → ((∃ (left : Lit → Bool) (cnt : Nat) (ss zs_1 : List (List UInt8)), wr.ranges Tryz.prog 9 (plainElem Tryz.prog 4) g W.heap.size yl D0 left cnt ∧ ss.length + cnt ≤ Maps.size D0 ∧
              wr.ownsRow W.heap.size 9 1 (.slice (some ⟨gr, 0, none⟩) (zs.length + 1) gc) zs_1.length (zs_1.map encStr) ∧ Collected D0 left ss ∧ Hid (zs_1.Perm ss ∧ zs_1.Pairwise (fun a b => Op.bytesLess a b = true)) ∧ Below W.heap.size W wr) ∧ wr.rangeLeft g W.heap.size < WR.rangeLeft g W.heap.size) := by
            intro HLo
            obtain ⟨hlt, hCl, hlk, hat, hcs, hrg⟩ := H9.out
            refine ⟨⟨_, cnt2, ss ++ [x], insAt zs k x, HR.out, by simp; omega, by rw [insAt_len]; exact ho, hCl.step hlk hat, Lib.hid ⟨insAt_perm.trans (HZ.out.1.append_right [x]), insAt_sorted hk HZ.out.2 HLo.out HL.out⟩, hnx⟩, ?_⟩
            rw [HR.out.left_eq, hrg.left_eq]
            exact hlt
          rw [HWR.out] at fin
          cases k with
          | zero =>
            have hfin := fin (Lib.hid (fun j z hj => by omega))
            have HF := Lib.hid hfin
            clear fin hfin ho hnx HR HL
            gi_wp2
            exact HF.out
          | succ m =>
            obtain ⟨z, hz⟩ : ∃ z, zs[m]? = some z := ⟨_, List.getElem?_eq_getElem (by omega)⟩
            have hml : m < zs.length := by omega
            have hi1 := insAt_lo (x := x) hz
            have hi2 := insAt_at (x := x) hk
            have hc1 : wr.cell? ⟨gr, m, none⟩ = some (encStr z) := by
              have := ho.cells (g := gr) rfl m (encStr z) (by rw [List.getElem?_map, hi1]; rfl)
              rwa [add_flat, Nat.zero_add] at this
            have hc2 : wr.cell? ⟨gr, m + 1, none⟩ = some (encStr x) := by
              have := ho.cells (g := gr) rfl (m + 1) (encStr x) (by rw [List.getElem?_map, hi2]; rfl)
              rwa [add_flat, Nat.zero_add] at this
            have hf1 := ho.frozenAt m
            have hf2 := ho.frozenAt (m + 1)
            have HI := Lib.hid (And.intro hz hml)
            have hpw := HZ.out.2
            clear hi1 hi2 hz
            by_cases hgt : Op.bytesLess z x = false ∧ (z == x) = false
            · obtain ⟨g1, g2⟩ := hgt
              have hxz : Op.bytesLess x z = true := by
                rcases h3 : Op.bytesLess x z
                · exact absurd (La.less_tri _ _ g1 h3) (by simpa using g2)
                · rfl
              have HXZ := Lib.hid hxz
              have e0 : ((m + 1 : Nat) : Int) = (m : Int) + 1 := by omega
              rw [e0]
              have HO := Lib.hid (And.intro ho hnx)
              clear e0 ho hxz fin hnx hpw
              simp only [encStr] at hc1 hc2 ⊢
              gi_wp2
              go_roundw
              case rel =>
                obtain ⟨ho, hnx⟩ := HO.out
                obtain ⟨hz, hml⟩ := HI.out
                refine ⟨m, by omega, rfl, ?_, Lib.hid ?_, Lib.hid ?_, ?_⟩
                · have h1 := own_set (own_set ho (by omega) (m + 1) (encStr z)) (by omega) m (encStr x)
                  rw [← List.map_set, ← List.map_set, insAt_step hz] at h1
                  exact h1
                · intro j y hj hy
                  by_cases hjm : j = m
                  · subst hjm
                    rw [hz] at hy
                    cases hy
                    exact HXZ.out
                  · exact HL.out j y (by omega) hy
                · have hr := HR.out
                  have hb1 : g ≠ gr := by have := HBL.out; omega
                  have hb2 : W.heap.size ≠ gr := by
                    have := row_ne_iter ho hr
                    simpa [Value.ownBlock] using this
                  exact (ranges_set hr hb1 hb2 _ _).1
                · exact (hnx.setCell (p := ⟨gr, m + 1, none⟩) hgb _).setCell (p := ⟨gr, m, none⟩) hgb _
              case measure => simp [intOf]
            · have hle : Op.bytesLess z x = true ∨ (z == x) = true := by
                rcases h3 : Op.bytesLess z x
                · rcases h4 : (z == x)
                  · exact absurd ⟨h3, h4⟩ hgt
                  · exact .inr rfl
                · exact .inl rfl
              have hzx : Op.bytesLess z x = true := by
                rcases hle with h | h
                · exact h
                · exfalso
                  have hzx : z = x := by simpa using h
                  have hmem : x ∈ zs := by rw [← hzx]; exact List.mem_of_getElem? HI.out.1
                  have hnd := (H9.out.2.1.step H9.out.2.2.1 H9.out.2.2.2.1).1
                  rw [List.nodup_append] at hnd
                  exact hnd.2.2 x ((HZ.out.1.mem_iff).1 hmem) x (by simp) rfl
              have hfin := fin (Lib.hid (fun j y hj hy => by
                by_cases hjm : j = m
                · subst hjm
                  rw [HI.out.1] at hy
                  cases hy
                  exact hzx
                · have hjl : j < m := by omega
                  exact La.less_trans _ _ _ (pair_at HZ.out.2 hjl hy HI.out.1) hzx))
              have HF := Lib.hid hfin
              have e0 : ((m + 1 : Nat) : Int) = (m : Int) + 1 := by omega
              rw [e0]
              clear e0 ho hgt hle fin hfin hnx hpw HR HL
              simp only [encStr] at hc1 hc2 ⊢
              gi_wp2
              exact HF.out
  case stop =>
    rintro D c pre W _ _ h _
    exact h.elim
theorem ModsJ_any (L : List Tn) (A : Option Addr) (c : Nat) (T : ByteArray) (B : Option Addr) (sl : List Site) (d : Nat) (w : World) (hN : L.length ≤ 1000000) (hNN : sl.length ≤ 1000000) (hLc : L.length ≤ c) (hS : ∀ x ∈ L, x.small) (hL : LT w w.heap.size A L)
    (hB : Sl w w.heap.size 5 B sl.length (cells sl)) (hsm : ∀ s ∈ sl, s.mo.size ≤ maxLen ∧ s.ex.size ≤ maxLen) :
    Calls Tryz.prog 10 #[.agg #[.slice A L.length c, .string T, .slice B sl.length d]] w fun e w' => ModsQ (chkP L T sl.length) sl w e w' := by
  by_cases h : (chkP L T sl.length).1 = 0
  · exact Mods_ok L A c T B sl d w hN hNN hLc hS hL hB hsm h
  · exact Mods_bad L A c T B sl d w hN hNN hLc hS hL h
end Go.Proofs.YtmagljnlfponaaaGreat.J
