/- Parts of this claim: JuF, JuG. -/
import Derived.BigQuiet
import Derived.Deep.QuietTactic
import Derived.RangeFuncWrites
import Derived.Test.YtmagljnlfponaaaGreatP04
import Derived.Test.YtmagljnlfponaaaGreatP30
set_option linter.unusedVariables false
set_option linter.unusedSimpArgs false
/- JuF -/
namespace Go.Proofs.YtmagljnlfponaaaGreat.J
open Go.RowKit Go.Proofs.YtmagljnlfponaaaGreat.B Go.Proofs.YtmagljnlfponaaaGreat.T Go.Proofs.YtmagljnlfponaaaGreat.K Go.Proofs.YtmagljnlfponaaaGreat.La
set_option linter.unusedVariables false
set_option linter.unusedSimpArgs false

theorem lt_sl {w : World} {A : Option Addr} {L : List Tn} (h : Sl w w.heap.size 8 A L.length (tns L)) : LT w w.heap.size A L := by
  rcases h.2 with h0 | ⟨b, o, h1, h2, h3⟩
  · exact .inl (List.eq_nil_of_length_eq_zero h0)
  · exact .inr ⟨b, o, h1, by omega, h2, h3⟩
theorem infoSite : (Tryz.prog.info? 62).map (fun i => (i.zero, i.size, i.bytes)) = some (some (.agg La.blank), 5, 56) := by kernel_rfl
theorem infoNode : (Tryz.prog.info? 60).map (fun i => (i.zero, i.size, i.bytes)) = some (some (.agg #[.int .i8 0, .int .i64 0, .int .i64 0, .string ⟨#[]⟩, .string ⟨#[]⟩, .string ⟨#[]⟩, .int .i64 0, .int .i64 0]), 8, 88) := by kernel_rfl
theorem cells_oneJ (l : List Site) : ∀ u ∈ cells l, u.oneCell' = true := by
  intro u hu
  obtain ⟨s, _, hs⟩ := List.mem_flatMap.1 hu
  simp only [Site.vs, List.mem_cons, List.not_mem_nil, or_false] at hs
  rcases hs with rfl | rfl | rfl | rfl | rfl <;> rfl
theorem tns_one (l : List Tn) : ∀ u ∈ tns l, u.oneCell' = true := by
  intro u hu
  obtain ⟨s, _, hs⟩ := List.mem_flatMap.1 hu
  simp only [Tn.vs, List.mem_cons, List.not_mem_nil, or_false] at hs
  rcases hs with rfl | rfl | rfl | rfl | rfl | rfl | rfl | rfl <;> rfl

theorem copySitesJ (l : List Site) (A : Option Addr) (c : Nat) (w : World) (hl : l.length ≤ 16384) (hA : Sl w w.heap.size 5 A l.length (cells l)) :
    Calls Tryz.prog 23 #[.slice A l.length c] w fun e w' => ∃ A' c', e = .returned (.slice A' l.length c') ∧ w'.ownsRow w.heap.size 62 5 (.slice A' l.length c') l.length (cells l) ∧ Below w.heap.size w w' := by
  obtain ⟨i0, hi0, hz0, hz1, hz2⟩ := info_parts infoSite
  go_enter Tryz.func23, Tryz.ntmps23
  go_wp2_with (at_builtin; refine wpList_append_sl _ rfl (.tmp 4) (.tmp 5) _ rfl w.heap.size 62 i0 _ 5 56 Tryz.underlying23 hi0 hz0 hz1 hz2 rfl (by omega) (.slice none 0 0) 0 [] rfl (World.ownsRow_nil _ _ _ _) w.heap.size A l.length c (cells l) rfl hA (cells_oneJ l) (by simp only [maxLen]; omega) (by omega) (Nat.le_refl _) ?_; intro v1 w1 hown hg hat)
  obtain ⟨A', c', hv, _, _, hsl⟩ := Sl.of_own hown
  simp only [Nat.zero_add, List.nil_append] at hv hown
  subst hv
  go_ret
  exact ⟨A', c', rfl, hown, (Below.refl _ _).grown hg (Nat.le_refl _) (by simp [Value.ownBlock])⟩

theorem copyNodesJ (l : List Tn) (A : Option Addr) (c : Nat) (w : World) (hl : l.length ≤ 1000000) (hA : Sl w w.heap.size 8 A l.length (tns l)) :
    Calls Tryz.prog 22 #[.slice A l.length c] w fun e w' => ∃ A' c', e = .returned (.slice A' l.length c') ∧ l.length ≤ c' ∧ w'.ownsRow w.heap.size 60 8 (.slice A' l.length c') l.length (tns l) ∧ Below w.heap.size w w' := by
  obtain ⟨i0, hi0, hz0, hz1, hz2⟩ := info_parts infoNode
  go_enter Tryz.func22, Tryz.ntmps22
  go_wp2_with (at_builtin; refine wpList_append_sl _ rfl (.tmp 4) (.tmp 5) _ rfl w.heap.size 60 i0 _ 8 88 Tryz.underlying22 hi0 hz0 hz1 hz2 rfl (by omega) (.slice none 0 0) 0 [] rfl (World.ownsRow_nil _ _ _ _) w.heap.size A l.length c (tns l) rfl hA (tns_one l) (by simp only [maxLen]; omega) (by omega) (Nat.le_refl _) ?_; intro v1 w1 hown hg hat)
  obtain ⟨A', c', hv, hc', _, hsl⟩ := Sl.of_own hown
  simp only [Nat.zero_add, List.nil_append] at hv hown hc'
  subst hv
  go_ret
  exact ⟨A', c', rfl, hc', hown, (Below.refl _ _).grown hg (Nat.le_refl _) (by simp [Value.ownBlock])⟩

theorem own_but {w w' : World} {base : Nat} {e : TypeId} {sz n : Nat} {v : Value} {xs : List Value} (h : w.ownsRow base e sz v n xs) (hk : ∀ b, base ≤ b → b < w.heap.size → w'.heap[b]? = w.heap[b]?) : w'.ownsRow base e sz v n xs := by
  refine ⟨h.1, ?_⟩
  rcases h.2 with h2 | ⟨g, cap, cur, hv, hbg, hg, r⟩
  · exact .inl h2
  · exact .inr ⟨g, cap, cur, hv, hbg, (hk g hbg (Array.getElem?_eq_some_iff.1 hg).1).trans hg, r⟩
theorem sl_own {w : World} {base : Nat} {e : TypeId} {sz n c : Nat} {A : Option Addr} {xs : List Value} (h : w.ownsRow base e sz (.slice A n c) n xs) : Sl w w.heap.size sz A n xs := by
  obtain ⟨A', c', hv, _, _, hsl⟩ := Sl.of_own h
  injection hv with hA _ _
  rw [hA]
  exact hsl
/-- A program in memory of its own. -/
def PrgAt (w : World) (L : List Tn) (T : ByteArray) (l : List Site) (v : Value) : Prop :=
  ∃ A c B d, v = .agg #[.slice A L.length c, .string T, .slice B l.length d] ∧ L.length ≤ c ∧ Sl w w.heap.size 8 A L.length (tns L) ∧ Sl w w.heap.size 5 B l.length (cells l)
theorem PrgAt.below {w w' : World} {L : List Tn} {T : ByteArray} {l : List Site} {v : Value} (h : PrgAt w L T l v) (hb : Below w.heap.size w w') : PrgAt w' L T l v := by
  obtain ⟨A, c, B, d, h1, h2, h3, h4⟩ := h
  exact ⟨A, c, B, d, h1, h2, (h3.below hb).more hb.size, (h4.below hb).more hb.size⟩

set_option maxRecDepth 100000 in
theorem copyProgram_any (L : List Tn) (T : ByteArray) (l : List Site) (A : Option Addr) (c : Nat) (B : Option Addr) (d : Nat) (w : World) (hL : L.length ≤ 1000000) (hl : l.length ≤ 16384) (hA : Sl w w.heap.size 8 A L.length (tns L)) (hB : Sl w w.heap.size 5 B l.length (cells l)) :
    Calls Tryz.prog 6 #[.agg #[.slice A L.length c, .string T, .slice B l.length d]] w fun e w' => ∃ v, e = .returned v ∧ PrgAt w' L T l v ∧ Below w.heap.size w w' := by
  have hc1 := fun W (hb : Below w.heap.size w W) => copyNodesJ L A c W hL ((hA.below hb).more hb.size)
  have hc2 := fun W (hb : Below w.heap.size w W) => copySitesJ l B d W hl ((hB.below hb).more hb.size)
  have HC := Lib.hid (And.intro hc1 hc2)
  obtain ⟨N, hN⟩ : ∃ N, L.length = N := ⟨_, rfl⟩
  obtain ⟨M, hM⟩ : ∃ M, l.length = M := ⟨_, rfl⟩
  rw [hN, hM] at HC
  rw [hN, hM]
  unfold PrgAt
  rw [hN, hM]
  clear hc1 hc2 hA hB hN hM hL hl
  go_enter Tryz.func6, Tryz.ntmps6
  go_wp2_with fail
  obtain ⟨W0, hW0⟩ : ∃ W0, (w.alloc (.cells #[.slice A N c, .string T, .slice B M d] 25)).alloc (.cells #[.slice none 0 0, .string ⟨#[]⟩, .slice none 0 0] 25) = W0 := ⟨_, rfl⟩
  have hb0 : Below w.heap.size w W0 := by rw [← hW0]; exact bal (bal b0 _) _
  have k0 : Blk W0 w.heap.size 25 #[.slice A N c, .string T, .slice B M d] := by rw [← hW0]; exact (Blk.new w _ _).alloc _
  have k1 : Blk W0 (w.heap.size + 1) 25 #[.slice none 0 0, .string ⟨#[]⟩, .slice none 0 0] := by rw [← hW0]; have := Blk.new (w.alloc (.cells #[.slice A N c, .string T, .slice B M d] 25)) 25 #[.slice none 0 0, .string ⟨#[]⟩, .slice none 0 0]; simpa only [World.size_alloc] using this
  have h1 := HC.out.1 W0 hb0
  have H0 := Lib.hid (And.intro hb0 (And.intro k0 k1))
  clear hb0 k0 k1
  rw [hW0]
  (refine h1.mono ?_); rintro e w1 ⟨A', c', rfl, hc', hs1, hb1⟩
  clear hW0
  obtain ⟨g, hg⟩ : ∃ g, w.heap.size = g := ⟨_, rfl⟩
  obtain ⟨hb0, k0, k1⟩ := H0.out
  have k01 := k0.below hb1 k0.lt
  have k11 := k1.below hb1 k1.lt
  have q0 : w1.cell? ⟨g, 0, none⟩ = some (.slice A N c) := by rw [← hg]; exact (k01.cell 0).trans rfl
  have q1 : w1.cell? ⟨g, 1, none⟩ = some (.string T) := by rw [← hg]; exact (k01.cell 1).trans rfl
  have q2 : w1.cell? ⟨g, 2, none⟩ = some (.slice B M d) := by rw [← hg]; exact (k01.cell 2).trans rfl
  have f0 : w1.frozen? ⟨g, 0, none⟩ = false := by rw [← hg]; exact k01.frozen 0
  have HG := Lib.hid hg
  rw [hg]
  have H1 := Lib.hid (And.intro hs1 (And.intro hb1 (And.intro k01 (And.intro k11 hb0))))
  clear hs1 hb1 k01 k11 hb0 k0 k1 h1 hg
  go_wp2_with fail
  have q1' := q1
  obtain ⟨W1, hW1⟩ : ∃ W1, w1.setCell ⟨g, 0, none⟩ (.slice A' N c') = W1 := ⟨_, rfl⟩
  obtain ⟨hs1, hb1, k01, k11, hb0⟩ := H1.out
  have hg := HG.out
  rw [hg] at k01 k11 hb0
  have hgw : g < w1.heap.size := k01.lt
  have hbg1 : Below g w W1 := by rw [← hW1]; exact ((hg ▸ (hb0.trans (hb1.mono (by rw [← hg]; exact hb0.size))) : Below g w w1)).setCell (p := ⟨g, 0, none⟩) (Nat.le_refl _) _
  have m0 : Blk W1 g 25 #[.slice A' N c', .string T, .slice B M d] := by rw [← hW1]; exact k01.set_ 0 _
  have m1 : Blk W1 (g + 1) 25 #[.slice none 0 0, .string ⟨#[]⟩, .slice none 0 0] := by rw [← hW1]; exact k11.far (p := ⟨g, 0, none⟩) (by simp) _
  have hg1 : g + 1 < W0.heap.size := by have := H0.out.2.2.lt; omega
  have hs2 : W1.ownsRow W0.heap.size 60 8 (.slice A' N c') N (tns L) ∧ g + 1 < W0.heap.size ∧ W0.heap.size ≤ W1.heap.size :=
    ⟨own_but hs1 (fun b hb _ => by rw [← hW1]; exact Below.heap_setCell _ _ _ b (by show b ≠ g; omega)), hg1, by rw [← hW1, World.size_setCell]; exact hb1.size⟩
  rw [hW1]
  clear q0 q1 q2 f0 q1' hW1 hs1 hb1 k01 k11 hg1
  have H2 := Lib.hid (And.intro hbg1 (And.intro m0 (And.intro m1 hs2)))
  have h2 := HC.out.2 W1 (by rw [hg]; exact hbg1)
  clear hg
  (refine h2.mono ?_); rintro e w2 ⟨B', d', rfl, hs3, hb2⟩
  have m01 := m0.below hb2 m0.lt
  have m11 := m1.below hb2 m1.lt
  have q0 : w2.cell? ⟨g, 0, none⟩ = some (.slice A' N c') := (m01.cell 0).trans rfl
  have q1 : w2.cell? ⟨g, 1, none⟩ = some (.string T) := (m01.cell 1).trans rfl
  have q2 : w2.cell? ⟨g, 2, none⟩ = some (.slice B M d) := (m01.cell 2).trans rfl
  have f2 : w2.frozen? ⟨g, 2, none⟩ = false := m01.frozen 2
  have p0 : w2.cell? ⟨g + 1, 0, none⟩ = some (.slice none 0 0) := (m11.cell 0).trans rfl
  have p1 : w2.cell? ⟨g + 1, 1, none⟩ = some (.string ⟨#[]⟩) := (m11.cell 1).trans rfl
  have p2 : w2.cell? ⟨g + 1, 2, none⟩ = some (.slice none 0 0) := (m11.cell 2).trans rfl
  have r0 : w2.frozen? ⟨g + 1, 0, none⟩ = false := m11.frozen 0
  have r1 : w2.frozen? ⟨g + 1, 1, none⟩ = false := m11.frozen 1
  have r2 : w2.frozen? ⟨g + 1, 2, none⟩ = false := m11.frozen 2
  have H3 := Lib.hid (And.intro hs3 (And.intro hb2 (And.intro m01 m11)))
  clear hs3 hb2 m01 m11 m0 m1 hbg1 hs2 hgw hb0 h2
  go_wp2_with fail
  refine bodyPost_ret (v := .agg #[.slice A' N c', .string T, .slice B' M d']) (by simp [results, Tryz.results6, go_sem, p0, p1, p2]) rfl ?_
  obtain ⟨hbg1, m0, m1, hs2, hg1, hz⟩ := H2.out
  obtain ⟨hs3, hb2, m01, m11⟩ := H3.out
  have hgs : g + 1 < w2.heap.size := m11.lt
  obtain ⟨W3, hW3⟩ : ∃ W3, (((w2.setCell ⟨g, 2, none⟩ (.slice B' M d')).setCell ⟨g + 1, 0, none⟩ (.slice A' N c')).setCell ⟨g + 1, 1, none⟩ (.string T)).setCell ⟨g + 1, 2, none⟩ (.slice B' M d') = W3 := ⟨_, rfl⟩
  rw [hW3]
  have hk : ∀ b, b ≠ g → b ≠ g + 1 → W3.heap[b]? = w2.heap[b]? := fun b h1 h2 => by
    rw [← hW3]
    exact (Below.heap_setCell _ _ _ b h2).trans ((Below.heap_setCell _ _ _ b h2).trans ((Below.heap_setCell _ _ _ b h2).trans (Below.heap_setCell _ _ _ b h1)))
  have hbw : Below g w W3 := by
    rw [← hW3]
    refine Below.setCell (Below.setCell (Below.setCell (Below.setCell (hbg1.trans (hb2.mono (by omega))) ?_ _) ?_ _) ?_ _) ?_ _ <;> simp
  refine ⟨_, rfl, ⟨A', c', B', d', rfl, hc', sl_own (own_but (own_below hs2 hb2) fun b hb _ => hk b (by omega) (by omega)), sl_own (own_but hs3 fun b hb _ => hk b (by omega) (by omega))⟩, ?_⟩
  rw [HG.out]
  exact hbw

/-- How many boxes the first k letters have. -/
def cnt (s : ByteArray) (k : Nat) : Nat := (s.data.toList.take k).count 120
theorem cnt_succ (s : ByteArray) (k : Nat) (h : k < s.size) : cnt s (k + 1) = cnt s k + if s[k] = 120 then 1 else 0 := by
  have hl : k < s.data.toList.length := by simpa using h
  unfold cnt
  rw [List.take_succ_eq_append_getElem hl, List.count_append]
  congr 1
  have e : s.data.toList[k] = s[k] := by simp [ByteArray.getElem_eq_getElem_data]
  rw [e]
  by_cases hx : s[k] = 120
  · rw [if_pos hx, hx]; rfl
  · rw [if_neg hx, List.count_singleton, if_neg (by simpa using hx)]
theorem cnt_le (s : ByteArray) (k : Nat) : cnt s k ≤ cnt s s.size := by
  unfold cnt
  rw [show s.data.toList.take s.size = s.data.toList from List.take_of_length_le (by simp)]
  exact (List.take_sublist _ _).count_le _
def deepB (s : ByteArray) : Bool := decide (12 < cnt s s.size)
def sizeT (s : ByteArray) : Int := if deepB s = true then 2147483648 else s.size

theorem deep_w (s : ByteArray) (w : World) (hs : s.size ≤ 4611686018427387904) : Calls Tryz.prog 47 #[.string s] w fun e w' => e = .returned (.bool (deepB s)) ∧ w = w' := by
  obtain ⟨R, hR⟩ : ∃ R, deepB s = R := ⟨_, rfl⟩
  rw [hR]
  have HR := Lib.hid hR
  clear hR
  go_enter Tryz.func47, Tryz.ntmps47
  go_wp2
  go_loop [3, 4] (fun n i => ∃ (k N : Nat), k ≤ s.size ∧ i = .int .i64 k ∧ n = .int .i64 N ∧ N ≤ 13 ∧ Hid (N = cnt s k)) (fun _ i => s.size - (intOf i).toNat)
  case atStart => exact ⟨0, 0, Nat.zero_le _, rfl, rfl, by omega, Lib.hid rfl⟩
  case round =>
    obtain ⟨k, N, hk, rfl, rfl, hN, HC⟩ := hrel
    by_cases hlt : k < s.size
    · have HS := Lib.hid (cnt_succ s k hlt)
      by_cases hn : N ≤ 12
      · by_cases hx : s[k] = 120
        · have hx' : ((s[k].toNat : Int) == 120) = true := by rw [hx]; rfl
          have HX := Lib.hid hx
          clear hx
          go_wp2
          go_round
          case rel => exact ⟨k + 1, N + 1, by omega, by go_num, by go_num, by omega, Lib.hid (by rw [HS.out, if_pos HX.out, ← HC.out])⟩
          case measure => simp [intOf]; omega
        · have hx' : ((s[k].toNat : Int) == 120) = false := by
            rw [beq_eq_false_iff_ne]
            intro e
            exact hx (UInt8.toNat_inj.1 (by have : s[k].toNat = 120 := by omega
                                            exact this))
          have HX := Lib.hid hx
          clear hx
          go_wp2
          go_round
          case rel => exact ⟨k + 1, N, by omega, by go_num, rfl, by omega, Lib.hid (by rw [HS.out, if_neg HX.out, ← HC.out, Nat.add_zero])⟩
          case measure => simp [intOf]; omega
      · have hd : decide ((12 : Int) < (N : Int)) = true := by simp; omega
        have hr : R = true := by
          rw [← HR.out]
          unfold deepB
          have h1 := cnt_le s k
          have h2 := HC.out
          exact decide_eq_true (by omega)
        go_wp2
        go_ret
        exact ⟨retV (congrArg Value.bool (by first | rfl | exact hd | (rw [hr]))), rfl⟩
    · obtain rfl : k = s.size := by omega
      go_wp2
      go_ret
      refine ⟨retV (congrArg Value.bool ?_), rfl⟩
      rw [← HR.out]
      unfold deepB
      rw [← HC.out]
      exact decide_eq_decide.2 (by omega)
theorem sizeType_w (s : ByteArray) (w : World) (hs : s.size ≤ 4611686018427387904) : Calls Tryz.prog 36 #[.string s] w fun e w' => e = .returned (.int .i64 (sizeT s)) ∧ w' = w := by
  have hd := fun W => deep_w s W hs
  unfold sizeT
  generalize deepB s = v at *
  go_enter Tryz.func36, Tryz.ntmps36
  go_wp2_with fail
  (refine (hd _).mono ?_); rintro e w1 ⟨rfl, rfl⟩
  cases v
  · go_wp2_with fail
    go_ret
    exact ⟨rfl, rfl⟩
  · go_wp2_with fail
    go_ret
    exact ⟨rfl, rfl⟩

set_option maxRecDepth 100000 in
set_option maxHeartbeats 1000000 in
theorem sizeNodes_w (L : List Tn) (A : Option Addr) (c : Nat) (w : World) (hL : L.length ≤ 1000000) (hS : ∀ x ∈ L, x.small) (hA : LT w w.heap.size A L) :
    Calls Tryz.prog 20 #[.slice A L.length c] w fun e w' => ∃ v : Int, e = .returned (.int .i64 v) ∧ Below w.heap.size w w' := by
  have HA := Lib.hid (show ∀ W, Below w.heap.size w W → LT W w.heap.size A L from fun W hb => hA.bt (Bt.below hb))
  have HO := Lib.hid hS
  clear hA hS
  go_enter Tryz.func20, Tryz.ntmps20
  go_wp2
  go_loopw [3, 4] (fun n i wr => ∃ (k : Nat) (N : Int), k ≤ L.length ∧ i = .int .i64 k ∧ n = .int .i64 N ∧ Below w.heap.size w wr) (fun _ i _ => L.length - (intOf i).toNat)
  case atStart => exact ⟨0, _, Nat.zero_le _, rfl, rfl, Below.refl _ _⟩
  case round =>
    obtain ⟨k, N, hk, rfl, rfl, hbw⟩ := hrel
    by_cases hlt : k < L.length
    · obtain ⟨s, hs⟩ : ∃ s, L[k]? = some s := ⟨_, List.getElem?_eq_getElem hlt⟩
      obtain ⟨b, o, rfl, hbn, hb, c0, c1, c2, c3, c4, c5, c6, c7⟩ := (HA.out _ hbw).node hs
      obtain ⟨b0, b1, b2⟩ := HO.out s (List.mem_of_getElem? hs)
      by_cases hbig : N ≤ 2147483647
      · have h1 := fun W => sizeType_w s.t W b1
        have h2 := fun W => sizeType_w s.u W b2
        go_wp2
        go_quiet (first | (go_at_call 36; refine Calls.quiet_of_same (h1 _)) | (go_at_call 36; refine Calls.quiet_of_same (h2 _)))
        go_wp2
        go_roundw
        case rel => exact ⟨k + 1, _, by omega, by go_num, rfl, bdr hbw nq⟩
        case measure => simp [intOf]; omega
      · go_wp2
        go_ret
        first | exact ⟨_, rfl, hbw⟩ | exact hbw | exact ⟨⟨_, rfl⟩, hbw⟩
    · obtain rfl : k = L.length := by omega
      go_wp2
      go_ret
      first | exact ⟨_, rfl, hbw⟩ | exact hbw | exact ⟨⟨_, rfl⟩, hbw⟩
end Go.Proofs.YtmagljnlfponaaaGreat.J

/- JuG -/
namespace Go.Proofs.YtmagljnlfponaaaGreat.J
open Go.RowKit Go.Shelf Go.Proofs.YtmagljnlfponaaaGreat.B Go.Proofs.YtmagljnlfponaaaGreat.T Go.Proofs.YtmagljnlfponaaaGreat.K Go.Proofs.YtmagljnlfponaaaGreat.La
set_option linter.unusedVariables false
set_option linter.unusedSimpArgs false
attribute [local go_sem] Oper.semAt_some

/-- Sides in memory: two truths each. -/
def sdV (s : List (Bool × Bool)) : List Value := s.flatMap fun p => [.bool p.1, .bool p.2]
theorem sdV_len (s : List (Bool × Bool)) : (sdV s).length = s.length * 2 := by
  induction s with
  | nil => rfl
  | cons p s ih => simp only [sdV, List.flatMap_cons, List.length_append, List.length_cons] at *; rw [ih]; simp; omega
theorem sdV_set (s : List (Bool × Bool)) : ∀ (k j : Nat) (p : Bool × Bool), k < s.length → j < 2 → s[k]? = some p →
    (sdV s).set (k * 2 + j) (.bool true) = sdV (s.set k (if j = 0 then (true, p.2) else (p.1, true))) := by
  induction s with
  | nil => intro k j p h; simp at h
  | cons x s ih =>
    intro k j p hk hj hp
    cases k with
    | zero =>
      simp at hp; subst hp
      match j, hj with
      | 0, _ => simp [sdV]
      | 1, _ => simp [sdV]
    | succ k =>
      have := ih k j p (by simpa using hk) hj (by simpa using hp)
      simp only [sdV, List.flatMap_cons, List.set_cons_succ] at *
      rw [← this, show (k + 1) * 2 + j = (k * 2 + j) + 2 by omega]
      rfl
theorem infoSide : (Tryz.prog.info? 47).map (fun i => (i.zero, i.size, i.bytes)) = some (some (.agg #[.bool false, .bool false]), 2, 2) := by kernel_rfl

theorem sdV_rep (N : Nat) : sdV (List.replicate N (false, false)) = List.replicate (N * 2) (.bool false) := by
  induction N with
  | zero => rfl
  | succ n ih => rw [List.replicate_succ, show (n + 1) * 2 = n * 2 + 1 + 1 by omega, List.replicate_succ, List.replicate_succ, ← ih]; rfl
theorem made_sides (N : Nat) : madeCells (Value.agg #[.bool false, .bool false]).cells (N * 2) = (sdV (List.replicate N (false, false))).toArray := by
  rw [sdV_rep]
  apply Array.ext
  · simp [size_madeCells]
  · intro i h1 h2
    simp only [madeCells, Array.getElem_map, Array.getElem_range, List.getElem_toArray, List.getElem_replicate]
    have : i % (Value.agg #[.bool false, .bool false]).cells.size = 0 ∨ i % (Value.agg #[.bool false, .bool false]).cells.size = 1 := by
      show i % 2 = 0 ∨ i % 2 = 1
      omega
    rcases this with h | h <;> rw [h] <;> rfl
theorem make_sides (N : Nat) (w : World) (hN : N ≤ 1000000) : (Instr.makeSlice 32 (.int .i64 (N : Int)) (.int .i64 (N : Int))).run Tryz.prog w = .ok (.slice (some ⟨w.heap.size, 0, none⟩) N N) (w.alloc (.cells (sdV (List.replicate N (false, false))).toArray 47)) := by
  obtain ⟨i0, hi0, hz0, hz1, hz2⟩ := info_parts infoSide
  have h := run_make (P := Tryz.prog) w 32 47 i0 (.agg #[.bool false, .bool false]) Tryz.underlying32 hi0 hz0 .i64 .i64 (N : Int) (N : Int) (by omega) (Int.le_refl _) (by rw [hz2]; omega) (by omega)
  rw [hz1, show ((N : Int)).toNat = N by omega, made_sides] at h
  exact h

theorem mark_in {s : List (Bool × Bool)} {k : Nat} (hk : k < s.length) : (sdV s).toArray.setIfInBounds (k * 2) (.bool true) = (sdV (markS s ((k : Int) + 1))).toArray := by
  obtain ⟨p, hp⟩ : ∃ p, s[k]? = some p := ⟨_, List.getElem?_eq_getElem hk⟩
  have h := sdV_set s k 0 p hk (by omega) hp
  rw [if_pos rfl] at h
  have e : s.getD k (false, false) = p := by rw [List.getD_eq_getElem?_getD, hp]; rfl
  rw [List.setIfInBounds_toArray, show k * 2 = k * 2 + 0 from rfl, h]
  unfold markS
  rw [if_pos (by omega), show ((k : Int) + 1).toNat - 1 = k by omega, e]
theorem mark_out {s : List (Bool × Bool)} {k : Nat} (hk : k < s.length) : (sdV s).toArray.setIfInBounds (k * 2 + 1) (.bool true) = (sdV (markS s (-((k : Int) + 1)))).toArray := by
  obtain ⟨p, hp⟩ : ∃ p, s[k]? = some p := ⟨_, List.getElem?_eq_getElem hk⟩
  have h := sdV_set s k 1 p hk (by omega) hp
  rw [if_neg (by decide)] at h
  have e : s.getD k (false, false) = p := by rw [List.getD_eq_getElem?_getD, hp]; rfl
  rw [List.setIfInBounds_toArray, h]
  unfold markS
  rw [if_neg (by omega), show (-(-((k : Int) + 1))).toNat - 1 = k by omega, e]
theorem sides_snoc (N : Nat) (bl : List Int) (b : Int) : sidesL N (bl ++ [b]) = markS (sidesL N bl) b := by simp [sidesL]
theorem KpJ.set {g : Nat} {W : World} (p : Addr) (hp : p.block = g) (v : Value) : KpJ g W (W.setCell p v) := ⟨by rw [World.size_setCell]; exact Nat.le_refl _, fun k o hk hko _ => (Below.heap_setCell W p v k (by rw [hp]; exact hk)).trans hko⟩
theorem blk_kept {W W' : World} {row : Option Nat} {g : Nat} {t : TypeId} {cs : Array Value} (hs : Blk W g t cs) (hg : W.grownBy W' row) (hr : ∀ r, row = some r → ∃ o : Obj, W.heap[r]? = some o ∧ o.isCells = false) : Blk W' g t cs := (grownBy_keeps_cells hg hr hs rfl).trans hs
theorem own_blk {W : World} {base g : Nat} {t : TypeId} {sz n : Nat} {xs : List Value} (h : Blk W g t xs.toArray) (hb : base ≤ g) (hn : n ≤ maxLen) (hx : xs.length = n * sz) : W.ownsRow base t sz (.slice (some ⟨g, 0, none⟩) n n) n xs :=
  ⟨hx, .inr ⟨g, n, xs.toArray, rfl, hb, h, Nat.le_refl _, hn, by simpa using hx, by simp [← hx]⟩⟩

/-- What Sides answers. -/
def SidesQ (R : Int × List Tn) (N : Nat) (w : World) (e : Ending) (w' : World) : Prop := Below w.heap.size w w' ∧ if R.1 = 0 then ∃ v, e = .returned (.tuple #[v, .int .i64 0]) ∧ w'.ownsRow w.heap.size 47 2 v N (sdV (sidesL N (blL R.2)))
  else e = .returned (.tuple #[.slice none 0 0, .int .i64 R.1])

set_option maxRecDepth 100000 in
set_option maxHeartbeats 2000000 in
theorem Sides_bad (L : List Tn) (A : Option Addr) (c : Nat) (T : ByteArray) (B : Option Addr) (N d : Nat) (w : World) (hN : L.length ≤ 1000000) (hNN : N ≤ 1000000) (hLc : L.length ≤ c) (hS : ∀ x ∈ L, x.small) (hL : LT w w.heap.size A L) (hR : (chkP L T N).1 ≠ 0) :
    Calls Tryz.prog 8 #[.agg #[.slice A L.length c, .string T, .slice B N d]] w fun e w' => SidesQ (chkP L T N) N w e w' := by
  have hc := fun W (hW : LT W W.heap.size A L) => check_j L A c T B N d W hN hNN hLc hS hW
  have HA := Lib.hid (show ∀ W, Below w.heap.size w W → LT W W.heap.size A L from fun W hb => (hL.below hb).fresh (Nat.le_refl _))
  have hc0 := hc (w.alloc (.cells #[.slice A L.length c, .string T, .slice B N d] 25)) (HA.out _ (bal b0 _))
  unfold SidesQ
  unfold ChkQ at hc0
  simp only [if_neg hR] at hc0 ⊢
  have e1 : ((chkP L T N).1 != 0) = true := by simpa using hR
  generalize (chkP L T N).1 = E at *
  clear hc hL hS hLc hR HA
  go_enter Tryz.func8, Tryz.ntmps8
  go_wp2_with fail
  (refine hc0.mono ?_); rintro e w1 ⟨hb, rfl⟩
  have HB := Lib.hid hb
  clear hb hc0
  go_wp2_with fail
  go_ret2
  exact ⟨bl (bal b0 _) HB.out, rfl⟩

set_option maxRecDepth 100000 in
set_option maxHeartbeats 4000000 in
theorem Sides_ok (L : List Tn) (A : Option Addr) (c : Nat) (T : ByteArray) (B : Option Addr) (N d : Nat) (w : World) (hN : L.length ≤ 1000000) (hNN : N ≤ 1000000) (hLc : L.length ≤ c) (hS : ∀ x ∈ L, x.small) (hL : LT w w.heap.size A L) (hR : (chkP L T N).1 = 0) :
    Calls Tryz.prog 8 #[.agg #[.slice A L.length c, .string T, .slice B N d]] w fun e w' => SidesQ (chkP L T N) N w e w' := by
  have hc := fun W (hW : LT W W.heap.size A L) => check_j L A c T B N d W hN hNN hLc hS hW
  have HA := Lib.hid (show ∀ W, Below w.heap.size w W → LT W W.heap.size A L from fun W hb => (hL.below hb).fresh (Nat.le_refl _))
  have hc0 := hc (w.alloc (.cells #[.slice A L.length c, .string T, .slice B N d] 25)) (HA.out _ (bal b0 _))
  obtain ⟨hl1, _, hcst⟩ := chkP_ok hR
  have hM : (laidL L).length ≤ L.length := by have := laid_le L L.length; rwa [List.take_of_length_le (Nat.le_refl _)] at this
  unfold SidesQ
  unfold ChkQ at hc0
  simp only [if_pos hR, hl1] at hc0 ⊢
  clear hc hL hS hLc hR HA hl1
  generalize laidL L = l at *
  have HC := Lib.hid (And.intro hcst hM)
  clear hcst hM
  obtain ⟨M, hMl⟩ : ∃ M, l.length = M := ⟨_, rfl⟩
  rw [hMl] at HC hc0
  have HM := Lib.hid hMl
  clear hMl
  have hmk := fun W => make_sides N W hNN
  refine (callsIn_wide (n := 3)).1 ?_
  refine callsIn_of_wp_marks Tryz.func8 rfl trivial ?_ rfl
  simp only [Tryz.ntmps8, List.size_toArray, List.length_cons, List.length_nil, Nat.reduceAdd, Nat.reduceSub, Array.replicate_succ, Array.replicate_zero, List.push_toArray, List.append_toArray, List.nil_append, List.cons_append]
  gi_wp2
  refine ⟨trivial, (callsIn_wide.2 hc0).mono ?_⟩
  rintro e w1 ⟨hb1, v, rfl, ho⟩
  obtain ⟨Av, cv, rfl, hv1, hv2⟩ := own_shape ho
  obtain ⟨g, hg⟩ : ∃ g, w1.heap.size = g := ⟨_, rfl⟩
  have hbx : Blk w1 w.heap.size 25 #[.slice A L.length c, .string T, .slice B N d] := (Blk.new w _ _).below hb1 (by simp)
  have k2 : w1.cell? ⟨w.heap.size, 2, none⟩ = some (.slice B N d) := (hbx.cell 2).trans rfl
  have hbw : Below w.heap.size w w1 := bl (bal b0 _) hb1
  have HO := Lib.hid (And.intro ho (And.intro hbw hg))
  clear ho hbw hb1 hbx hc0
  gi_wp2
  obtain ⟨W2, hW2⟩ : ∃ W2, (w1.alloc (.cells (sdV (List.replicate N (false, false))).toArray 47)).alloc (.cells #[.slice (some ⟨g, 0, none⟩) N N] 32) = W2 := ⟨_, rfl⟩
  rw [hW2]
  have hg := HO.out.2.2
  have z2 : W2.heap.size = g + 2 := by rw [← hW2]; simp only [World.size_alloc]; omega
  have bg : Blk W2 g 47 (sdV (List.replicate N (false, false))).toArray := by rw [← hW2, ← hg]; exact (Blk.new w1 _ _).alloc _
  have bo : Blk W2 (g + 1) 32 #[.slice (some ⟨g, 0, none⟩) N N] := by rw [← hW2, ← hg]; have := Blk.new (w1.alloc (.cells (sdV (List.replicate N (false, false))).toArray 47)) 32 #[.slice (some ⟨w1.heap.size, 0, none⟩) N N]; simpa only [World.size_alloc] using this
  have hb12 : Below w1.heap.size w1 W2 := by rw [← hW2]; exact bal (bal b0 _) _
  have hgw : w.heap.size ≤ g := by have := HO.out.2.1.size; omega
  have H2 := Lib.hid (And.intro z2 (And.intro bg (And.intro bo (And.intro (bl HO.out.2.1 hb12) (And.intro (own_below HO.out.1 hb12) (And.intro hgw hg))))))
  clear z2 bg bo hb12 hgw hg hW2 k2
  refine ⟨trivial, (callsIn_wide.2 (unsafe_any Av M cv W2)).mono ?_⟩
  rintro e w3 ⟨rfl, hw3⟩
  obtain ⟨h, hh⟩ : ∃ h, W2.heap.size = h := ⟨_, rfl⟩
  rw [hh]
  have H3 := Lib.hid (And.intro hw3 hh)
  clear hh hw3
  gi_wp2
  obtain ⟨hw3, hh⟩ := H3.out
  obtain ⟨z2, bg, bo, hbw2, ho2, hgw, hg⟩ := H2.out
  have hb23 : Below W2.heap.size W2 w3 := by rw [hw3]; exact bal b0 _
  have bh : Blk w3 h 71 #[.slice Av M cv] := by rw [hw3, ← hh]; exact Blk.new _ _ _
  have z3 : w3.heap.size = g + 3 := by rw [hw3, World.size_alloc, z2]
  have bg3 := bg.below hb23 bg.lt
  have bo3 := bo.below hb23 bo.lt
  have ho3 := own_below ho2 hb23
  have hbw3 := bl hbw2 hb23
  have hgs : g < w3.heap.size := by omega
  have hhs : h < w3.heap.size := by omega
  have hhg : h ≠ g := by omega
  obtain rfl := HM.out
  have hla : LdAt g w3 Av l := by
    rcases ho2.2 with ⟨_, h0⟩ | ⟨b, cap, cur, hv, hbb, hbk, _⟩
    · exact .inl (List.eq_nil_of_length_eq_zero h0)
    · injection hv with hA _ _
      have hlt : b < w1.heap.size := by
        rcases HO.out.1.2 with ⟨hv', h0⟩ | ⟨b', cap', cur', hv', _, hbk', _⟩
        · injection hv' with hA' _ _; rw [hA] at hA'; cases hA'
        · injection hv' with hA' _ _
          rw [hA] at hA'
          injection hA' with hA'
          injection hA' with hA'
          rw [hA']
          exact (Array.getElem?_eq_some_iff.1 hbk').1
      refine .inr ⟨b, hA, by omega, by omega, fun j u hu => ?_⟩
      have := ho3.cells (g := b) (by rw [hA]; rfl) j u hu
      rwa [add_flat, Nat.zero_add] at this
  have hN0 := HO.out.2.2
  clear bg bo ho2 hbw2 hb23 hw3 z2
  refine wpIn_rangeFunc_ownG (n := 3) rfl (by omega) (gf := 40) (lb := #[.pointer (some ⟨h, 0, none⟩)]) rfl trivial (enters_of Tryz.func40 (by kernel_rfl) rfl)
    (unsafe1_stops 2 g h (by omega) Av cv l (Nat.le_trans HC.out.2 hN) N HC.out.1 hhg w3 hgs hhs ((bh.cell 0).trans rfl) hla)
    (fun h1 h2 => h1.trans h2) (fun W q o o' hq ho hc _ => ⟨by simp, fun k o2 hk hko hkc => (World.putObj_heap_other (fun e => by subst e; rw [ho] at hko; cases hko; rw [hc] at hkc; cases hkc)).trans hko⟩) (Below.refl _ _) (fun _ => rfl)
    (fun pre W => (Blk W g 47 (sdV (sidesL N (pre.map Bn.v))).toArray ∧ Blk W (g + 1) 32 #[.slice (some ⟨g, 0, none⟩) N N]) ∧ Below w.heap.size w W)
    (fun _ _ _ => False)
    (OwnFrom.and (Own.from (fun s X Y row hs hg hr => ⟨blk_kept hs.1 hg hr, blk_kept hs.2 hg hr⟩) _) (ownFrom_below (Nat.le_refl _) (by omega)))
    (fun _ _ _ _ _ hs _ _ => hs)
    ⟨⟨bg3, bo3⟩, hbw3⟩
    (fun x => { tmps := #[.agg #[.slice A L.length c, .string T, .slice B N d], .pointer (some ⟨w.heap.size, 0, none⟩), .slice none 0 0, .int .i64 0, .slice Av l.length cv, .int .i64 0, .pointer (some ⟨g + 1, 0, none⟩), .int .i64 x.v, .tuple #[.slice Av l.length cv, .int .i64 0],
      .agg #[.slice A L.length c, .string T, .slice B N d], .tuple #[.slice Av l.length cv, .int .i64 0], .slice Av l.length cv, .int .i64 0, .int .i64 0, .bool false, undef, .pointer (some ⟨w.heap.size, 2, none⟩), .slice B N d, .int .i64 (N : Int), .slice (some ⟨g, 0, none⟩) N N,
      .slice Av l.length cv, .func (.func 40) #[] #[.pointer (some ⟨h, 0, none⟩)], .int .i64 x.v, undef, undef, undef, undef, undef, undef, undef, undef, undef, undef, undef, undef, undef, undef], defers := [] }) ?assign ?body ?done ?stop
  case assign =>
    intro q x W K hK
    gi_wp2
    exact hK
  case body =>
    rintro q pre x W ⟨⟨k1, k2⟩, hbw⟩ _
    have hlen : (sidesL N (pre.map Bn.v)).length = N := sides_len _ _
    have o0 : W.cell? ⟨g + 1, 0, none⟩ = some (.slice (some ⟨g, 0, none⟩) N N) := (k2.cell 0).trans rfl
    have hgW : g + 1 < W.heap.size := k2.lt
    have hx := x.h
    obtain ⟨xv, hxv⟩ : ∃ xv, x.v = xv := ⟨_, rfl⟩
    dsimp only
    rw [hxv] at hx ⊢
    have HX := Lib.hid hxv
    clear hxv
    rcases hx with ⟨hx1, hx2⟩ | ⟨hx1, hx2⟩
    · obtain ⟨k, rfl⟩ : ∃ k : Nat, xv = (k : Int) + 1 := ⟨(xv - 1).toNat, by omega⟩
      have hk : k < N := by omega
      have hp : decide ((0 : Int) < (k : Int) + 1) = true := by simp
      obtain ⟨u, hu⟩ : ∃ u, W.cell? ⟨g, k * 2, none⟩ = some u := by
        rw [k1.cell (k * 2)]; exact ⟨_, by rw [List.getElem?_toArray]; exact List.getElem?_eq_getElem (by rw [sdV_len, hlen]; omega)⟩
      have hfz := k1.frozen (k * 2)
      have K1 := Lib.hid (And.intro k1 (And.intro k2 (And.intro hbw hlen)))
      clear k1 k2 hbw hlen hx1 hx2
      gi_wp2
      obtain ⟨k1, k2, hbw, hlen⟩ := K1.out
      refine ⟨(KeepsOthers.setCell _ _ _).from _, KpJ.set _ rfl _, ⟨?_, k2.far (by simp) _⟩, hbw.setCell (p := ⟨g, k * 2, none⟩) hgw _⟩
      rw [List.map_append, List.map_cons, List.map_nil, HX.out, sides_snoc, ← mark_in (by rw [hlen]; exact hk)]
      exact k1.set_ _ _
    · obtain ⟨k, rfl⟩ : ∃ k : Nat, xv = -((k : Int) + 1) := ⟨(-xv - 1).toNat, by omega⟩
      have hk : k < N := by omega
      have hp : decide ((0 : Int) < -((k : Int) + 1)) = false := by simp; omega
      obtain ⟨u, hu⟩ : ∃ u, W.cell? ⟨g, k * 2 + 1, none⟩ = some u := by
        rw [k1.cell (k * 2 + 1)]; exact ⟨_, by rw [List.getElem?_toArray]; exact List.getElem?_eq_getElem (by rw [sdV_len, hlen]; omega)⟩
      have hfz := k1.frozen (k * 2 + 1)
      have K1 := Lib.hid (And.intro k1 (And.intro k2 (And.intro hbw hlen)))
      have hneg : IntKind.i64.wrap (- -((k : Int) + 1)) = (k : Int) + 1 := by rw [Int.neg_neg]; exact IntWalk.i64_in _ (by omega)
      clear k1 k2 hbw hlen hx1 hx2
      gi_wp2
      obtain ⟨k1, k2, hbw, hlen⟩ := K1.out
      refine ⟨(KeepsOthers.setCell _ _ _).from _, KpJ.set _ rfl _, ⟨?_, k2.far (by simp) _⟩, hbw.setCell (p := ⟨g, k * 2 + 1, none⟩) hgw _⟩
      rw [List.map_append, List.map_cons, List.map_nil, HX.out, sides_snoc, ← mark_out (by rw [hlen]; exact hk)]
      exact k1.set_ _ _
  case done =>
    rintro D ys W hD hS ⟨⟨k1, k2⟩, hbw⟩ hK
    rw [hS] at k1
    have o0 : W.cell? ⟨g + 1, 0, none⟩ = some (.slice (some ⟨g, 0, none⟩) N N) := (k2.cell 0).trans rfl
    have K1 := Lib.hid (And.intro k1 (And.intro k2 (And.intro hbw hK)))
    have hD' := Lib.hid hD
    clear k1 k2 hbw hS hK hD
    gi_wp2
    obtain ⟨k1, k2, hbw, hK⟩ := K1.out
    have hD := hD'.out
    refine ⟨by simp, .inl ⟨_, _, rfl, run_takeDeferred hK, ?_⟩⟩
    refine ⟨_, by simp [results, Tryz.results8, go_sem], hbw.trans (belowK_b (w := w) (Nat.le_refl _) W D _ _ (by omega) hK rfl rfl), _, rfl, own_blk ((World.putObj_heap_other (by omega)).trans k1) hgw (by unfold maxLen; omega) (by rw [sdV_len, sides_len])⟩
  case stop =>
    rintro D c pre W _ _ h _
    exact h.elim
/-- judge.Sides. -/
theorem SidesJ_any (L : List Tn) (A : Option Addr) (c : Nat) (T : ByteArray) (B : Option Addr) (N d : Nat) (w : World) (hN : L.length ≤ 1000000) (hNN : N ≤ 1000000) (hLc : L.length ≤ c) (hS : ∀ x ∈ L, x.small) (hL : LT w w.heap.size A L) :
    Calls Tryz.prog 8 #[.agg #[.slice A L.length c, .string T, .slice B N d]] w fun e w' => SidesQ (chkP L T N) N w e w' := by
  by_cases h : (chkP L T N).1 = 0
  · exact Sides_ok L A c T B N d w hN hNN hLc hS hL h
  · exact Sides_bad L A c T B N d w hN hNN hLc hS hL h
end Go.Proofs.YtmagljnlfponaaaGreat.J
