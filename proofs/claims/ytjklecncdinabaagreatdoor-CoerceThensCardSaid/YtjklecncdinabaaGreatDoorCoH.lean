/- Contracts: coerce.make1, good, Of. -/
import Derived.Test.YtjklecncdinabaaGreatDoorCoM
import Derived.Test.YtjklecncdinabaaGreatDoorCoF
import Derived.Test.YtjklecncdinabaaGreatDoorGrnD
import Derived.Deep.RegionHeld3
namespace Go.Proofs.YtjklecncdinabaaGreatDoor.C
open Go.RowKit Go.Proofs.YtjklecncdinabaaGreatDoor.B
open Go.Proofs.YtjklecncdinabaaGreatDoor.T (Ty str strV arB ar co isB bs groundL isB_str Head_yes ground_any Parts_yes PartsR str_q byte_eq check_any bs_list co_any info9)
set_option linter.unusedVariables false
set_option linter.unusedSimpArgs false

theorem str_gr {S : Ty} (h : S.ok) (hq : S.head ≠ 63) : bs (groundL S) = str (grT S.head) := by
  unfold str
  congr 1
  unfold groundL grT
  rw [if_neg hq]
  rcases head_cases h with ⟨e, _⟩ | ⟨e, _⟩ | ⟨e, _⟩
  · rw [if_pos e, e]; rfl
  · rw [if_neg (by omega), if_pos e, e]; rfl
  · rw [if_neg (by omega), if_neg (by omega), e]; rfl

theorem VCo.part_mk {w2 W : World} {C C' : Nat → Prop} (hb : Below w2.heap.size w2 W) (hC : ∀ b, C b → C' b) {q : Int} {j : Bool} {h : Int} {A : Option Addr} {c : Nat} {va vb : Value} {a b : Co} (h1 : opsN h ≤ c) (h2 : c ≤ maxLen)
    (hk : Kd w2 C A ([va, vb].take (opsN h))) (hva : VCo w2 C a va) (hvb : VCo w2 C b vb) : VCo W C' (.part q j h a b) (.iface 100 (.agg #[.int .i64 q, .bool j, .int .u8 h, .slice A (opsN h) c])) :=
  ⟨A, c, va, vb, rfl, h1, h2, hk.stay (.below hb) hC, hva.stay (.below hb) hC, hvb.stay (.below hb) hC⟩

/-- What make1 answers. -/
def MakeQ (t : Co) (w : World) (e : Ending) (w' : World) : Prop := ∃ v, e = .returned v ∧ VCo w' (w.heap.size ≤ ·) t v ∧ Below w.heap.size w w'

def MakeC (d : Nat) : Prop := ∀ (S T : Ty) (p : Int) (w : World), S.ok → T.ok → S.code.length ≤ 64 → T.code.length ≤ 64 → co S T → ms S T ≤ d → -1000000000000 ≤ p → p ≤ 1000000000000 →
  Calls Tryz.prog 49 #[.string (str S), .string (str T), .int .i64 p] w fun e w' => MakeQ (mk d S T p) w e w'

theorem tPP1 (v : Value) (w : World) : (Instr.typeAssert (.iface 100 v) 69 100 false).run Tryz.prog w = .ok v w := by kernel_rfl

section
variable (S T : Ty) (p : Int) (w : World) (d : Nat)
set_option maxRecDepth 100000 in
theorem make_qq (hS : S.ok) (hT : T.ok) (h1 : S.head = 63) (h2 : T.head = 63) :
    Calls Tryz.prog 49 #[.string (str S), .string (str T), .int .i64 p] w fun e w' => MakeQ .any w e w' := by
  have q1 : ((str S).toList == [63]) = true := by rw [str_q hS, h1]; rfl
  have q2 : ((str T).toList == [63]) = true := by rw [str_q hT, h2]; rfl
  generalize str S = s at *
  generalize str T = t at *
  clear h1 h2
  go_enter Tryz.func49, Tryz.ntmps49
  go_wp2_with fail
  go_ret
  exact ⟨_, rfl, rfl, b0⟩

set_option maxRecDepth 100000 in
theorem make_inj (hd : MakeC d) (hS : S.ok) (hT : T.ok) (hS64 : S.code.length ≤ 64) (h1 : S.head ≠ 63) (h2 : T.head = 63) (hm : ms S T ≤ d + 1) (hp0 : -1000000000000 ≤ p) (hp1 : p ≤ 1000000000000) :
    Calls Tryz.prog 49 #[.string (str S), .string (str T), .int .i64 p] w fun e w' => MakeQ (mk (d + 1) S T p) w e w' := by
  rw [mk_inj h1 h2]
  obtain ⟨g1, g2, g3⟩ := grT_ok hS h1
  have q1 : ((str S).toList == [63]) = false := by rw [str_q hS]; simpa using h1
  have q2 : ((str T).toList == [63]) = true := by rw [str_q hT, h2]; rfl
  have hg := fun W => ground_any S W hS hS64 h1
  rw [str_gr hS h1] at hg
  have hms := (ms_gr hS h1 h2).1
  have hr := fun W => hd S (grT S.head) p W hS g1 hS64 (by omega) (co_gr hS h1).1 (by omega) hp0 hp1
  obtain ⟨d', rfl⟩ : ∃ d', d = d' + 1 := ⟨d - 1, by have := ms_pos S (grT S.head); omega⟩
  obtain ⟨a, b, hmk⟩ := mk_is_part (d := d') (S := S) (T := grT S.head) (p := p) h1 (by rw [g2]; exact h1)
  rw [hmk] at hr ⊢
  have HG := Lib.hid hg
  have HR := Lib.hid hr
  generalize str S = s at *
  generalize str T = t at *
  generalize str (grT S.head) = g at *
  clear hmk hms hm h1 h2 hg hr g1 g2 g3 hd
  go_enter Tryz.func49, Tryz.ntmps49
  go_wp2_with fail
  (refine (HG.out _).mono ?_); rintro ev w1 ⟨rfl, hb1⟩
  go_wp2_with fail
  (refine (HR.out _).mono ?_); rintro ev w2 ⟨v, rfl, hv, hb2⟩
  simp only [VCo] at hv
  obtain ⟨A, c, va, vb, rfl, hc1, hc2, hk, hva, hvb⟩ := hv
  have m1 := fun W => tPP1 (.agg #[.int .i64 0, .bool false, .int .u8 (hI S.head), .slice A (opsN (hI S.head)) c]) W
  have HV := Lib.hid (And.intro hk (And.intro hva hvb))
  have hs1 := hb1.size
  clear hk hva hvb
  go_wp2_with fail
  go_ret
  obtain ⟨hk, hva, hvb⟩ := HV.out
  exact ⟨_, rfl, VCo.part_mk (bal b0 _) (fun b h => Nat.le_trans hs1 h) hc1 hc2 hk hva hvb, bal (bl hb1 hb2) _⟩

set_option maxRecDepth 100000 in
theorem make_proj (hd : MakeC d) (hS : S.ok) (hT : T.ok) (hT64 : T.code.length ≤ 64) (h1 : S.head = 63) (h2 : T.head ≠ 63) (hm : ms S T ≤ d + 1) (hp0 : -1000000000000 ≤ p) (hp1 : p ≤ 1000000000000) :
    Calls Tryz.prog 49 #[.string (str S), .string (str T), .int .i64 p] w fun e w' => MakeQ (mk (d + 1) S T p) w e w' := by
  rw [mk_proj h1 h2]
  obtain ⟨g1, g2, g3⟩ := grT_ok hT h2
  have q1 : ((str S).toList == [63]) = true := by rw [str_q hS, h1]; rfl
  have q2 : ((str T).toList == [63]) = false := by rw [str_q hT]; simpa using h2
  have hg := fun W => ground_any T W hT hT64 h2
  rw [str_gr hT h2] at hg
  have hms := (ms_gr hT h2 h1).2
  have hr := fun W => hd (grT T.head) T p W g1 hT (by omega) hT64 (co_gr hT h2).2 (by omega) hp0 hp1
  obtain ⟨d', rfl⟩ : ∃ d', d = d' + 1 := ⟨d - 1, by have := ms_pos (grT T.head) T; omega⟩
  obtain ⟨a, b, hmk⟩ := mk_is_part (d := d') (S := grT T.head) (T := T) (p := p) (by rw [g2]; exact h2) h2
  rw [hmk, g2] at hr
  rw [hmk, g2]
  have HG := Lib.hid hg
  have HR := Lib.hid hr
  generalize str S = s at *
  generalize str T = t at *
  generalize str (grT T.head) = g at *
  clear hmk hms hm h1 h2 hg hr g1 g2 g3 hd
  go_enter Tryz.func49, Tryz.ntmps49
  go_wp2_with fail
  (refine (HG.out _).mono ?_); rintro ev w1 ⟨rfl, hb1⟩
  go_wp2_with fail
  (refine (HR.out _).mono ?_); rintro ev w2 ⟨v, rfl, hv, hb2⟩
  simp only [VCo] at hv
  obtain ⟨A, c, va, vb, rfl, hc1, hc2, hk, hva, hvb⟩ := hv
  have m1 := fun W => tPP1 (.agg #[.int .i64 0, .bool false, .int .u8 (hI T.head), .slice A (opsN (hI T.head)) c]) W
  have HV := Lib.hid (And.intro hk (And.intro hva hvb))
  have hs1 := hb1.size
  clear hk hva hvb
  go_wp2_with fail
  go_ret
  obtain ⟨hk, hva, hvb⟩ := HV.out
  exact ⟨_, rfl, VCo.part_mk (bal b0 _) (fun b h => Nat.le_trans hs1 h) hc1 hc2 hk hva hvb, bal (bl hb1 hb2) _⟩
end

theorem own_elem {w : World} {base n c : Nat} {e : TypeId} {A : Option Addr} {vs : List Value} (h : w.ownsRow base e 1 (.slice A n c) n vs) {k : Nat} {u : Value} (hk : vs[k]? = some u) : ∃ g, A = some ⟨g, 0, none⟩ ∧ base ≤ g ∧ g < w.heap.size ∧ w.cell? ⟨g, k, none⟩ = some u := by
  have hl : k < n := by have := (List.getElem?_eq_some_iff.1 hk).1; have h1 := h.1; omega
  obtain ⟨g, h1, h2, h3, h4⟩ := own_cell h hl
  exact ⟨g, h1, h2, h3, h4 u hk⟩
theorem Stay.grown_but {G : Nat} {w w' : World} (hg : w.grownBy w' (some G)) {g k : Nat} {u : Value} (h : w.cell? ⟨g, k, none⟩ = some u) (hl : g < w.heap.size) (hn : g ≠ G) : w'.cell? ⟨g, k, none⟩ = some u := by
  have := (Stay.grown (C := fun b => b = g) hg (fun b hb => by subst hb; intro e; injection e with e; exact hn e.symm)) ⟨g, k, none⟩ rfl hl
  exact this.trans h
theorem grown_set {a b : World} {G : Nat} (h : a.grownBy b (some G)) (i : Nat) (u : Value) : a.grownBy (b.setCell ⟨G, i, none⟩ u) (some G) :=
  ⟨h.os, h.tape, h.output, by rw [World.size_setCell]; exact h.size, fun j hj hne => (Below.heap_setCell b ⟨G, i, none⟩ u j (fun e => hne (by rw [e]))).trans (h.block j hj hne)⟩
theorem own_sl {w : World} {base n c sz : Nat} {e : TypeId} {A : Option Addr} {xs : List Value} (h : w.ownsRow base e sz (.slice A n c) n xs) : Sl w w.heap.size sz A n xs := by
  obtain ⟨A', c', hv, _, _, hs⟩ := Sl.of_own h
  injection hv with e1 _ _
  rw [e1]; exact hs
theorem own_grown {w w' : World} {base n sz : Nat} {e : TypeId} {v l : Value} {xs : List Value} (h : w.ownsRow base e sz v n xs) (hg : w.grownBy w' l.ownBlock) (hap : Apart v l) : w'.ownsRow base e sz v n xs := by
  refine ⟨h.1, ?_⟩
  rcases h.2 with h2 | ⟨g, cap, cur, hv, hbg, hgg, r⟩
  · exact .inl h2
  · refine .inr ⟨g, cap, cur, hv, hbg, (hg.block g (Array.getElem?_eq_some_iff.1 hgg).1 ?_).trans hgg, r⟩
    rcases hap with h3 | h3
    · rw [hv] at h3; simp [Value.ownBlock] at h3
    · rw [hv] at h3; simpa [Value.ownBlock] using h3

set_option maxRecDepth 100000 in
set_option maxHeartbeats 8000000 in
theorem make_partW (S T : Ty) (p : Int) (w : World) (d : Nat) (hd : MakeC d) (hS : S.ok) (hT : T.ok) (hS64 : S.code.length ≤ 64) (hT64 : T.code.length ≤ 64) (hc : co S T) (h1 : S.head ≠ 63) (h2 : T.head ≠ 63) (hm : ms S T ≤ d + 1) (hp0 : -1000000000000 ≤ p) (hp1 : p ≤ 1000000000000) :
    Calls Tryz.prog 49 #[.string (str S), .string (str T), .int .i64 p] w fun e w' => MakeQ (mk (d + 1) S T p) w e w' := by
  obtain ⟨R, hR⟩ : ∃ R, mk (d + 1) S T p = R := ⟨_, rfl⟩
  have hR2 := hR
  rw [mk_part h1 h2] at hR2
  rw [hR]
  have q1 : ((str S).toList == [63]) = false := by rw [str_q hS]; simpa using h1
  have q2 : ((str T).toList == [63]) = false := by rw [str_q hT]; simpa using h2
  have hhd := fun W => Head_yes S W hS hS64
  have hps := fun W => Parts_yes S W hS hS64
  have hpt := fun W => Parts_yes T W hT hT64
  unfold PartsR at hps hpt
  have hkid := fun i (hi : i < opsN (hI S.head)) => kids_co hS hT h1 h2 hc hi
  have hlen1 := kk_len hS h1
  have hlen2 := kk_len hT h2
  have hheq : S.head = T.head := by
    rw [co_any hS hT] at hc
    rcases hc with h | h | h
    · exact absurd h h1
    · exact absurd h h2
    · exact h.1
  rw [← hheq] at hlen2
  have hih : ∀ m, m < opsN (hI S.head) → ∀ W, Calls Tryz.prog 49 (if turnd (hI S.head) m = true then #[.string (str ((kk T).getD m qT)), .string (str ((kk S).getD m qT)), .int .i64 (-p)] else #[.string (str ((kk S).getD m qT)), .string (str ((kk T).getD m qT)), .int .i64 p]) W fun e w' => MakeQ (mkKf (mk d) S T p m) W e w' := by
    intro m hmn W
    obtain ⟨_, _, _, e1, e2, o1, o2, c1, c2, l1, l2, m1, m2⟩ := hkid m hmn
    unfold mkKf
    cases turnd (hI S.head) m
    · exact hd _ _ p W o1 o2 (by omega) (by omega) c1 (by omega) hp0 hp1
    · exact hd _ _ (-p) W o2 o1 (by omega) (by omega) c2 (by omega) (by omega) (by omega)
  have hel := fun i (hi : i < opsN (hI S.head)) => (⟨(hkid i hi).2.2.2.1, (hkid i hi).2.2.2.2.1⟩ : (kk S)[i]? = some ((kk S).getD i qT) ∧ (kk T)[i]? = some ((kk T).getD i qT))
  have hkl : S.kids.length ≤ 2 ∧ T.kids.length ≤ 2 := ⟨S.kids_le, T.kids_le⟩
  have hkc : ∀ b : Bool, ((hI S.head : Int) == 120) = b → kk S = (if b = true then S.kids ++ S.kids else S.kids) ∧ kk T = (if b = true then T.kids ++ T.kids else T.kids) := by
    intro b hb
    have e : (S.head = 120) ↔ b = true := by
      subst hb
      have : ((hI S.head : Int) == 120) = (S.head == 120) := byte_eq S.head 120
      rw [this]; simp
    unfold kk
    rw [← hheq]
    cases b
    · have : ¬ S.head = 120 := fun h => by simpa using e.1 h
      rw [if_neg this, if_neg this]; exact ⟨rfl, rfl⟩
    · have : S.head = 120 := e.2 rfl
      rw [if_pos this, if_pos this]; exact ⟨rfl, rfl⟩
  have hnb : opsN (hI S.head) ≤ 2 := by have := opsN_le (hI S.head); omega
  obtain ⟨i0, hi0, hz0, hz1, hz2⟩ := info_three infoCoi
  obtain ⟨j0, hj0, hy0, hy1, hy2⟩ := info_three info9
  have hone : ∀ (D : TypeId) (z : Value), ∀ u ∈ [Value.iface D z], u.oneCell' = true := by
    intro D z u hu
    rw [List.mem_singleton.1 hu]; rfl
  have honeS : ∀ K : List Ty, ∀ u ∈ K.map strV, u.oneCell' = true := by
    intro K u hu
    obtain ⟨k, _, rfl⟩ := List.mem_map.1 hu
    rfl
  have htu := fun k W => turned_any (hI S.head) k W
  obtain ⟨n, hn⟩ : ∃ n, opsN (hI S.head) = n := ⟨_, rfl⟩
  obtain ⟨h, hh⟩ : ∃ h, hI S.head = h := ⟨_, rfl⟩
  have hhd' : ∀ W, Calls Tryz.prog 69 #[.string (str S)] W fun e w' => e = .returned (.int .u8 h) ∧ W = w' := by rw [← hh]; exact hhd
  rw [hn] at hR2 hkid hlen1 hlen2 hih hel hnb
  rw [hh] at hR2 hih htu hkc hn
  generalize str S = s at *
  generalize str T = t at *
  have HPS := Lib.hid hps
  have HPT := Lib.hid hpt
  have HR := Lib.hid hR2
  have HIH := Lib.hid hih
  have HEL := Lib.hid hel
  have HL := Lib.hid (And.intro hlen1 hlen2)
  have HKC := Lib.hid hkc
  have HTU := Lib.hid htu
  have HONE := Lib.hid hone
  have HONES := Lib.hid honeS
  have HN := Lib.hid hn
  have hneg : IntKind.i64.wrap (-p) = -p := IntWalk.i64_in _ (by omega)
  obtain ⟨KS, hKS⟩ : ∃ K, S.kids = K := ⟨_, rfl⟩
  obtain ⟨KT, hKT⟩ : ∃ K, T.kids = K := ⟨_, rfl⟩
  obtain ⟨sn, hsn⟩ : ∃ x, KS.length = x := ⟨_, rfl⟩
  obtain ⟨tn, htn⟩ : ∃ x, KT.length = x := ⟨_, rfl⟩
  rw [hKS, hKT] at HKC hkl
  rw [hKS] at HPS
  rw [hKT] at HPT
  rw [hsn] at HPS hkl
  rw [htn] at HPT hkl
  have HSN := Lib.hid (And.intro hsn htn)
  clear hR hR2 hd hS hT hS64 hT64 hc h1 h2 hm hhd hps hpt hkid hlen1 hlen2 hih hel hkc hheq htu hone honeS hn hh hKS hKT hsn htn
  go_enter Tryz.func49, Tryz.ntmps49
  go_wp2_with fail
  (refine (hhd' _).mono ?_); rintro ev w1 ⟨rfl, rfl⟩
  clear hhd'
  go_wp2_with fail
  (refine (HPS.out _).mono ?_); rintro ev w2 ⟨vS, rfl, hoS, hbS⟩
  go_wp2_with fail
  (refine (HPT.out _).mono ?_); rintro ev w3 ⟨vT, rfl, hoT, hbT⟩
  have hoS3 := own_below hoS hbT
  have hb03 : Below w.heap.size w w3 := bl (bl (bal b0 _) hbS) hbT
  have hblk3 : Blk w3 w.heap.size 100 #[.int .i64 0, .bool false, .int .u8 h, .slice none 0 0] := ((Blk.new w _ _).below hbS (by simp only [World.size_alloc]; omega)).below hbT (by have := hbS.size; simp only [World.size_alloc] at this; omega)
  have hap : Apart vT vS := Apart.later hoS hoT (Nat.le_refl _)
  have hbs2 : w.heap.size + 1 ≤ w2.heap.size := by have := hbS.size; simpa only [World.size_alloc] using this
  have hbs3 := hbT.size
  have z2 := (hblk3.cell 2).trans rfl
  have hoS4 := own_less (base' := w.heap.size + 1) hoS3 (by simp only [World.size_alloc]; omega)
  have hoT4 := own_less (base' := w.heap.size + 1) hoT hbs2
  obtain ⟨AS, cS, rfl, hcS1, hcS2⟩ := own_shape hoS4
  obtain ⟨AT, cT, rfl, hcT1, hcT2⟩ := own_shape hoT4
  have HW3 := Lib.hid (And.intro hb03 (And.intro hblk3 (And.intro hap (And.intro hoS4 hoT4))))
  clear hoS hoS3 hoT hbS hbT hb03 hblk3 hap hoS4 hoT4
  go_upto_if 56 with fail
  go_cut [10, 11] from 56 to 63 (fun a b wx => (∃ A1 c1, a = .slice A1 n c1 ∧ wx.ownsRow (w.heap.size + 1) 9 1 (.slice A1 n c1) n ((kk S).map strV)) ∧ (∃ A2 c2, b = .slice A2 n c2 ∧ wx.ownsRow (w.heap.size + 1) 9 1 (.slice A2 n c2) n ((kk T).map strV)) ∧
    Below w.heap.size w wx ∧ Blk wx w.heap.size 100 #[.int .i64 0, .bool false, .int .u8 h, .slice none 0 0])
  case first =>
    obtain ⟨hb03, hblk3, hap, hoS4, hoT4⟩ := HW3.out
    cases hb : ((h : Int) == 120)
    · obtain ⟨e1, e2⟩ := HKC.out false hb
      rw [if_neg (by simp)] at e1 e2
      have hn1 : sn = n := by rw [← HSN.out.1, ← e1]; exact HL.out.1
      have hn2 : tn = n := by rw [← HSN.out.2, ← e2]; exact HL.out.2
      have HE := Lib.hid (And.intro e1 e2)
      have HO := Lib.hid (And.intro hoS4 hoT4)
      subst hn1 hn2
      clear e1 e2 hap hoS4 hoT4
      go_wp2_with fail
      go_meet
      case rel =>
        rw [HE.out.1, HE.out.2]
        exact ⟨⟨_, _, rfl, HO.out.1⟩, ⟨_, _, rfl, HO.out.2⟩, hb03, hblk3⟩
    · obtain ⟨e1, e2⟩ := HKC.out true hb
      rw [if_pos rfl] at e1 e2
      have hn1 : sn + sn = n := by have := HL.out.1; rw [e1, List.length_append] at this; rw [← HSN.out.1]; exact this
      have hn2 : tn + tn = n := by have := HL.out.2; rw [e2, List.length_append] at this; rw [← HSN.out.2]; exact this
      have HE := Lib.hid (And.intro e1 e2)
      have HO := Lib.hid (And.intro hoS4 (And.intro hoT4 hap))
      have hS1 := own_sl hoS4
      have HS1 := Lib.hid hS1
      have HBB := Lib.hid (And.intro hb03 hblk3)
      have HN12 := Lib.hid (And.intro hn1 hn2)
      have hbs3' : w.heap.size + 1 ≤ w3.heap.size := by omega
      clear e1 e2 hap hoS4 hoT4 hS1 hn1 hn2 hb03 hblk3
      go_wp2_with (first
        | (at_builtin; refine wpList_append_sl _ rfl (.tmp 57) (.tmp 58) _ rfl (w.heap.size + 1) 9 j0 _ 1 16 Tryz.underlying112 hj0 hy0 hy1 hy2 rfl (by omega) (.slice AS sn cS) sn (KS.map strV) rfl HO.out.1 w3.heap.size AS sn cS (KS.map strV) rfl HS1.out (HONES.out _) (by simp only [maxLen]; omega) (by omega) hbs3' ?_; intro v4 w4 hown4 hg4 hV4; have HG4 := Lib.hid (And.intro hown4 (And.intro hg4 hV4)); clear hown4 hg4 hV4)
        | (at_builtin; refine wpList_append_sl _ rfl (.tmp 60) (.tmp 61) _ rfl (w.heap.size + 1) 9 j0 _ 1 16 Tryz.underlying112 hj0 hy0 hy1 hy2 rfl (by omega) (.slice AT tn cT) tn (KT.map strV) rfl (own_grown HO.out.2.1 HG4.out.2.1 HO.out.2.2) w4.heap.size AT tn cT (KT.map strV) rfl (own_sl (own_grown HO.out.2.1 HG4.out.2.1 HO.out.2.2)) (HONES.out _) (by simp only [maxLen]; omega) (by omega) (Nat.le_trans hbs3' HG4.out.2.1.size) ?_; intro v5 w5 hown5 hg5 hV5; have HG5 := Lib.hid (And.intro hown5 (And.intro hg5 hV5)); clear hown5 hg5 hV5))
      obtain ⟨h41, h42, h43⟩ := HG4.out
      obtain ⟨h51, h52, h53⟩ := HG5.out
      have h45 : Apart v4 (.slice AT tn cT) := by
        have h0 := HO.out.2.2
        rcases e : v4.ownBlock with _ | g
        · exact .inl e
        · right
          rw [e]
          intro he
          rcases h43 with h6 | h6
          · rw [h6] at e
            rcases h0 with h7 | h7
            · rw [h7] at he; cases he
            · exact h7 (he.symm.trans e.symm)
          · rw [h6] at e
            injection e with e
            subst e
            have := (HO.out.2.1.lt _ he.symm).2
            omega
      have h46 := own_grown h41 h52 h45
      obtain ⟨A4, c4, rfl, _, _⟩ := own_shape h46
      obtain ⟨A5, c5, rfl, _, _⟩ := own_shape h51
      have hb5 : Below w.heap.size w w5 := (HBB.out.1.grown h42 HBB.out.1.size (fun x hx => by have := (HO.out.1.lt _ hx).1; omega)).grown h52 (Nat.le_trans HBB.out.1.size h42.size) (fun x hx => by have := (HO.out.2.1.lt _ hx).1; omega)
      have hk5 : Blk w5 w.heap.size 100 #[.int .i64 0, .bool false, .int .u8 h, .slice none 0 0] := (HBB.out.2.grown h42 (fun e => by have := (HO.out.1.lt _ e.symm).1; omega)).grown h52 (fun e => by have := (HO.out.2.1.lt _ e.symm).1; omega)
      rw [HN12.out.1] at h46 ⊢
      rw [HN12.out.2] at h51 ⊢
      rw [← List.map_append, ← HE.out.1] at h46
      rw [← List.map_append, ← HE.out.2] at h51
      go_meet
      case rel => exact ⟨⟨_, _, rfl, h46⟩, ⟨_, _, rfl, h51⟩, hb5, hk5⟩
  case rest =>
    obtain ⟨⟨A1, c1, rfl, hoA⟩, ⟨A2, c2, rfl, hoB⟩, hb0, hz0⟩ := hcut
    obtain ⟨W0, hW0⟩ : ∃ W0, wc = W0 := ⟨_, rfl⟩
    obtain rfl : W0 = wc := hW0.symm
    obtain ⟨G, hG⟩ : ∃ G, w.heap.size = G := ⟨_, rfl⟩
    rw [hG] at hoA hoB hz0 ⊢
    have hGW := hz0.lt
    have HA := Lib.hid (And.intro hoA hoB)
    have HZ := Lib.hid hz0
    have HB := Lib.hid hb0
    have HG := Lib.hid hG
    have hGl : w.heap.size ≤ G := by omega
    clear hoA hoB hz0 hb0 hG z2 HW3 HPS HPT HKC HONES HSN hW0
    go_wp2_with fail
    go_loopg [65] n (fun g u wr => ∃ (m : Nat) (V : Value), m ≤ n ∧ g = n - m ∧ u = .int .i64 m ∧ Kids wr (fun _ => False) G V (mkR d S T p m) ∧ Blk wr G 100 #[.int .i64 0, .bool false, .int .u8 h, V] ∧ W0.grownBy wr (some G) ∧ ∀ x, V.ownBlock = some x → W0.heap.size ≤ x)
    case atStart => exact ⟨0, _, by omega, rfl, rfl, Kids.nil _ _ _, HZ.out, ⟨rfl, rfl, rfl, Nat.le_refl _, fun _ _ _ => rfl⟩, fun x hx => by cases hx⟩
    case round =>
      obtain ⟨m, V, hm, rfl, rfl, hkd, hblk, hbG, hVB⟩ := hrel
      have HKD := Lib.hid hkd
      have HBK := Lib.hid hblk
      have HBG := Lib.hid hbG
      have HVB := Lib.hid hVB
      clear hkd hblk hbG hVB
      by_cases hlt : m < n
      · obtain ⟨e1, e2⟩ := HEL.out m hlt
        have x1 : ((kk S).map strV)[m]? = some (.string (str ((kk S).getD m qT))) := by rw [List.getElem?_map, e1]; rfl
        have x2 : ((kk T).map strV)[m]? = some (.string (str ((kk T).getD m qT))) := by rw [List.getElem?_map, e2]; rfl
        obtain ⟨ga, rfl, hga, hgal, hca⟩ := own_elem HA.out.1 x1
        obtain ⟨gb, rfl, hgb, hgbl, hcb⟩ := own_elem HA.out.2 x2
        have hih := HIH.out m hlt
        obtain ⟨sa, hsa⟩ : ∃ x, str ((kk S).getD m qT) = x := ⟨_, rfl⟩
        obtain ⟨sb, hsb⟩ : ∃ x, str ((kk T).getD m qT) = x := ⟨_, rfl⟩
        rw [hsa] at hca hih
        rw [hsb] at hcb hih
        have hsG : W0.heap.size ≤ wr.heap.size := HBG.out.size
        have hgr : ∀ W', Below wr.heap.size wr W' → W0.grownBy W' (some G) := fun W' hb' => grown_then HBG.out (grown_below hb' none) (fun j h => by cases h)
        have hcell : ∀ W', W0.grownBy W' (some G) → W0.grownBy W' (some G) ∧ W'.cell? ⟨ga, m, none⟩ = some (.string sa) ∧ W'.cell? ⟨gb, m, none⟩ = some (.string sb) := fun W' hb' =>
          ⟨hb', Stay.grown_but hb' hca hgal (by omega), Stay.grown_but hb' hcb hgbl (by omega)⟩
        have hS := fun W' (hb' : Below wr.heap.size wr W') => hcell W' (hgr W' hb')
        obtain ⟨_, hcaw, hcbw⟩ := hS wr b0
        obtain ⟨vs, Ck, hown, hCk, hvs⟩ := HKD.out
        rw [mkR_len (show m ≤ 2 by omega)] at hown
        obtain ⟨AV, cV, rfl, hV1, hV2⟩ := own_shape hown
        have hlst : ∀ x, (Value.slice AV m cV).ownBlock = some x → G + 1 ≤ x ∧ x < wr.heap.size := fun x hx => hown.lt x hx
        have HOWN := Lib.hid (show ∀ W', Below wr.heap.size wr W' → W'.ownsRow (G + 1) 69 1 (.slice AV m cV) m vs from fun W' hb' => own_below hown hb')
        have HGW := Lib.hid (show ∀ W', Below wr.heap.size wr W' → G + 1 ≤ W'.heap.size from fun W' hb' => by have := hb'.size; omega)
        have HZ3 := Lib.hid (show ∀ W', Below wr.heap.size wr W' → W'.cell? ⟨G, 3, none⟩ = some (.slice AV m cV) from fun W' hb' => ((HBK.out.below hb' (by omega)).cell 3).trans rfl)
        have hz3 := HZ3.out wr b0
        have HBK6 := Lib.hid (show ∀ W', Below wr.heap.size wr W' → ∀ W6, W'.grownBy W6 (Value.slice AV m cV).ownBlock → Blk W6 G 100 #[.int .i64 0, .bool false, .int .u8 h, .slice AV m cV] from fun W' hb' W6 hg6 =>
          (HBK.out.below hb' (by omega)).grown hg6 (fun e => by have := hlst G e.symm; omega))
        have HPRE := Lib.hid (show ∀ W', Below wr.heap.size wr W' → ∀ W6, W'.grownBy W6 (Value.slice AV m cV).ownBlock → W6.cell? ⟨G, 3, none⟩ = some (.slice AV m cV) ∧ W6.frozen? ⟨G, 3, none⟩ = false from fun W' hb' W6 hg6 =>
          ⟨((HBK6.out W' hb' W6 hg6).cell 3).trans rfl, (HBK6.out W' hb' W6 hg6).frozen 3⟩)
        have hst := fun W' W6 (hb' : Below wr.heap.size wr W') (hg6 : W'.grownBy W6 (Value.slice AV m cV).ownBlock) => hcell W6 (grown_then (hgr W' hb') hg6 (fun j hj => .inl (HVB.out j hj)))
        have HST := Lib.hid hst
        have HS2 := Lib.hid (fun W' W6 (u : Value) (hb' : Below wr.heap.size wr W') (hg6 : W'.grownBy W6 (Value.slice AV m cV).ownBlock) => hcell (W6.setCell ⟨G, 3, none⟩ u) (grown_set (hst W' W6 hb' hg6).1 3 u))
        have hrel := fun (w2 w6 : World) (v5 : Value) (A6 : Option Addr) (c6 : Nat) (hb2 : Below wr.heap.size wr w2) (hv5 : VCo w2 (wr.heap.size ≤ ·) (mkKf (mk d) S T p m) v5)
            (ho : w6.ownsRow (G + 1) 69 1 (.slice A6 (m + 1) c6) (m + 1) (vs ++ [v5])) (hg6 : (w2.alloc (.cells #[v5] 69)).grownBy w6 (Value.slice AV m cV).ownBlock)
            (hV6 : (Value.slice A6 (m + 1) c6).ownBlock = (Value.slice AV m cV).ownBlock ∨ (Value.slice A6 (m + 1) c6).ownBlock = some (w2.alloc (.cells #[v5] 69)).heap.size) =>
          (show Kids (w6.setCell ⟨G, 3, none⟩ (.slice A6 (m + 1) c6)) (fun _ => False) G (.slice A6 (m + 1) c6) (mkR d S T p (m + 1)) ∧ Blk (w6.setCell ⟨G, 3, none⟩ (.slice A6 (m + 1) c6)) G 100 #[.int .i64 0, .bool false, .int .u8 h, .slice A6 (m + 1) c6] ∧
              W0.grownBy (w6.setCell ⟨G, 3, none⟩ (.slice A6 (m + 1) c6)) (some G) ∧ ∀ x, (Value.slice A6 (m + 1) c6).ownBlock = some x → W0.heap.size ≤ x from by
            have htl := mkR_len (d := d) (S := S) (T := T) (p := p) (show m ≤ 2 by omega)
            refine ⟨?_, ((HBK6.out _ (bal hb2 _) w6 hg6).set_ 3 _), grown_set (hst _ _ (bal hb2 _) hg6).1 3 _, fun x hx => ?_⟩
            · rw [mkR_next (show m < 2 by omega)]
              refine (Kids.push (D := fun _ => False) (V := .slice AV m cV) (by rw [htl]; exact hown) hCk hvs hb2 hv5 (fun x hx => ?_) (bal b0 _) (by rw [htl]; exact ho) hg6 hV6).set_ 3 _
              have : wr.heap.size ≤ x := hx
              exact ⟨.inr (by omega), by omega, fun e => by have := hlst x e; omega⟩
            · rcases hV6 with h6 | h6
              · rw [h6] at hx; exact HVB.out x hx
              · rw [h6] at hx; injection hx with hx; rw [← hx]; have := hb2.size; simp only [World.size_alloc]; omega)
        have HREL := Lib.hid hrel
        have HS := Lib.hid hS
        have p2 := (HBK.out.cell 2).trans rfl
        obtain ⟨tu, htu⟩ : ∃ x, turnd h m = x := ⟨_, rfl⟩
        have htm := fun W => HTU.out m W
        rw [htu] at htm hih
        have HTM := Lib.hid htm
        have HCALL := Lib.hid hih
        unfold MakeQ at HCALL
        clear htm hih htu e1 e2 x1 x2 hsa hsb hca hcb hga hgb hgal hgbl hgr hcell hS hst hrel hown hCk hvs hlst
        go_wp2_with fail
        ((refine (HTM.out _).mono ?_); rintro e w2 ⟨rfl, rfl⟩)
        cases tu
        · go_wp2_with fail
          refine wp_region_held_drew (S := (fun W' => W0.grownBy W' (some G) ∧ W'.cell? ⟨ga, m, none⟩ = some (.string sa) ∧ W'.cell? ⟨gb, m, none⟩ = some (.string sb))) (by kernel_rfl) ?ss1 (fun hHeld => ?rr1)
          case ss1 => (try dsimp only); exact HS.out _ (Below.refl _ _).drew
          refine wpAnyH_take (i := 0) (oi := ⟨some 88, _, _, _, _, _⟩) (v := ?vv2) rfl (by kernel_rfl) (by kernel_rfl) (by kernel_rfl) (fun _ _ _ h => h) (Or.inl ⟨by rfl, ?yy2⟩) (by assumption) ?rr2
          case yy2 => (intro wq hSw; (try dsimp only at hSw); go_simp; try with_reducible rfl)
          try simp only [Act.put, List.setIfInBounds_toArray, List.set_cons_zero, List.set_cons_succ]
          refine wpAnyH_take (i := 2) (oi := ⟨some 90, _, _, _, _, _⟩) (v := ?vv3) rfl (by kernel_rfl) (by kernel_rfl) (by kernel_rfl) (fun _ _ _ h => h) (Or.inl ⟨by rfl, ?yy3⟩) (by assumption) ?rr3
          case yy3 => (intro wq hSw; (try dsimp only at hSw); go_simp; try with_reducible rfl)
          try simp only [Act.put, List.setIfInBounds_toArray, List.set_cons_zero, List.set_cons_succ]
          refine wpAnyH_take (i := 3) (oi := ⟨some 91, _, _, _, _, _⟩) (v := ?vv4) rfl (by kernel_rfl) (by kernel_rfl) (by kernel_rfl) (fun _ _ _ h => h) (Or.inl ⟨by rfl, ?yy4⟩) (by assumption) ?rr4
          case yy4 => (intro wq hSw; (try dsimp only at hSw); go_simp; try with_reducible rfl)
          try simp only [Act.put, List.setIfInBounds_toArray, List.set_cons_zero, List.set_cons_succ]
          refine wpAnyH_take (i := 4) (oi := ⟨some 92, _, _, _, _, _⟩) (v := ?vv5) rfl (by kernel_rfl) (by kernel_rfl) (by kernel_rfl) (fun _ _ _ h => h) (Or.inl ⟨by rfl, ?yy5⟩) (by assumption) ?rr5
          case yy5 => (intro wq hSw; (try dsimp only at hSw); go_simp; try with_reducible rfl)
          try simp only [Act.put, List.setIfInBounds_toArray, List.set_cons_zero, List.set_cons_succ]
          refine wpAnyH_take (i := 5) (oi := ⟨some 93, _, _, _, _, _⟩) (v := ?vv6) rfl (by kernel_rfl) (by kernel_rfl) (by kernel_rfl) (fun _ _ _ h => h) (Or.inl ⟨by rfl, ?yy6⟩) (by assumption) ?rr6
          case yy6 => (intro wq hSw; (try dsimp only at hSw); go_simp; try with_reducible rfl)
          try simp only [Act.put, List.setIfInBounds_toArray, List.set_cons_zero, List.set_cons_succ]
          refine wpAnyH_take (i := 6) (oi := ⟨some 94, _, _, _, _, _⟩) (v := ?vv7) rfl (by kernel_rfl) (by kernel_rfl) (by kernel_rfl) (fun _ _ _ h => h) (Or.inl ⟨by rfl, ?yy7⟩) (by assumption) ?rr7
          case yy7 => (intro wq hSw; (try dsimp only at hSw); go_simp; try with_reducible rfl)
          try simp only [Act.put, List.setIfInBounds_toArray, List.set_cons_zero, List.set_cons_succ]
          refine wpAnyH_take (i := 7) (oi := ⟨some 95, _, _, _, _, _⟩) (v := ?vv8) rfl (by kernel_rfl) (by kernel_rfl) (by kernel_rfl) (fun _ _ _ h => h) (Or.inl ⟨by rfl, ?yy8⟩) (by assumption) ?rr8
          case yy8 => (intro wq hSw; (try dsimp only at hSw); go_simp; try with_reducible rfl)
          try simp only [Act.put, List.setIfInBounds_toArray, List.set_cons_zero, List.set_cons_succ]
          refine wpAnyH_take (i := 8) (oi := ⟨some 96, _, _, _, _, _⟩) (v := ?vv9) rfl (by kernel_rfl) (by kernel_rfl) (by kernel_rfl) (fun _ _ _ h => h) (Or.inl ⟨by rfl, ?yy9⟩) (by assumption) ?rr9
          case yy9 => (intro wq hSw; (try dsimp only at hSw); go_simp; try with_reducible rfl)
          try simp only [Act.put, List.setIfInBounds_toArray, List.set_cons_zero, List.set_cons_succ]
          refine wpAnyH_take (i := 9) (oi := ⟨some 97, _, _, _, _, _⟩) (v := ?vv10) rfl (by kernel_rfl) (by kernel_rfl) (by kernel_rfl) (fun _ _ _ h => h) (Or.inl ⟨by rfl, ?yy10⟩) (by assumption) ?rr10
          case yy10 => (intro wq hSw; (try dsimp only at hSw); go_simp; try with_reducible rfl)
          try simp only [Act.put, List.setIfInBounds_toArray, List.set_cons_zero, List.set_cons_succ]
          refine wpAnyH_take (i := 10) (oi := ⟨some 98, _, _, _, _, _⟩) (v := ?vv11) rfl (by kernel_rfl) (by kernel_rfl) (by kernel_rfl) (fun _ _ _ h => h) (Or.inl ⟨by rfl, ?yy11⟩) (by assumption) ?rr11
          case yy11 => (intro wq hSw; (try dsimp only at hSw); go_simp; try with_reducible rfl)
          try simp only [Act.put, List.setIfInBounds_toArray, List.set_cons_zero, List.set_cons_succ]
          refine wpAnyH_ready (rs := [1, 11]) (by kernel_rfl) (by simp) ?_
          refine AllReadyH.cons (o := ⟨some 89, _, _, _, _, _⟩) rfl (fun K hK => ?br12) (AllReadyH.cons (o := ⟨some 99, _, _, _, _, _⟩) rfl (fun K hK => ?br13) AllReadyH.nil)
          case br12 =>
            go_simp
            refine hK.out _ _ ?ss14 (fun hHeld2 => ?rr14)
            case ss14 => (try dsimp only); exact hHeld
            clear hK K
            clear hHeld2
            try simp only [Act.put, List.setIfInBounds_toArray, List.set_cons_zero, List.set_cons_succ]
            refine wpAnyH_ready (rs := [11]) (by kernel_rfl) (by simp) ?_
            refine AllReadyH.cons (o := ⟨some 99, _, _, _, _, _⟩) rfl (fun K hK => ?_) AllReadyH.nil
            go_simp
            ((refine (HCALL.out _).mono ?_); rintro e w2 ⟨v5, rfl, hv5, hb2'⟩; have hb2 : Below wr.heap.size wr w2 := bl (Below.refl _ _).drew hb2'; clear hb2'; have hz3 := HZ3.out w2 hb2; obtain ⟨D5, z5, rfl⟩ := hv5.face; have hz3b := HZ3.out _ (bal hb2 (.cells #[.iface D5 z5] 69)); have HV5 := Lib.hid hv5; clear hv5)
            refine hK.out _ _ ?ss15 (fun hHeld2 => ?rr15)
            case ss15 => (try dsimp only); exact HS.out _ hb2
            clear hK K
            clear hHeld
            have hHeld := hHeld2
            clear hHeld2
            try simp only [Act.put, List.setIfInBounds_toArray, List.set_cons_zero, List.set_cons_succ]
            refine wpAnyH_ready (rs := [12]) (by kernel_rfl) (by simp) ?_
            refine AllReadyH.cons (o := ⟨some 100, _, _, _, _, _⟩) rfl (fun K hK => ?_) AllReadyH.nil
            go_simp
            go_simp
            refine hK.out _ _ ?ss16 (fun hHeld2 => ?rr16)
            case ss16 => (try dsimp only); exact HS.out _ (bal hb2 _)
            clear hK K
            clear hHeld
            have hHeld := hHeld2
            clear hHeld2
            try simp only [Act.put, List.setIfInBounds_toArray, List.set_cons_zero, List.set_cons_succ]
            refine wpAnyH_ready (rs := [13]) (by kernel_rfl) (by simp) ?_
            refine AllReadyH.cons (o := ⟨some 101, _, _, _, _, _⟩) rfl (fun K hK => ?_) AllReadyH.nil
            (refine step_append_sl rfl (.tmp 89) (.tmp 100) _ rfl (G + 1) 69 i0 _ 1 16 Tryz.underlying98 hi0 hz0 hz1 hz2 rfl (by omega) (.slice AV m cV) m vs rfl (HOWN.out _ (bal hb2 _)) (w2.heap.size + 1) (some ⟨w2.heap.size, 0, none⟩) 1 1 [.iface D5 z5] rfl (Sl.one w2 _ _) (HONE.out _ _) (by simp only [maxLen]; omega) (by omega) (HGW.out _ (bal hb2 _)) ?_; intro V' w6 hown6 hg6 hV6; obtain ⟨A6, c6, rfl, hs61, hs62⟩ := own_shape hown6; obtain ⟨hq0, hq1⟩ := HPRE.out _ (bal hb2 _) w6 hg6)
            refine hK.out _ _ ?ss17 (fun hHeld2 => ?rr17)
            case ss17 => (try dsimp only); exact HST.out _ _ (bal hb2 _) hg6
            clear hK K
            clear hHeld
            have hHeld := hHeld2
            clear hHeld2
            try simp only [Act.put, List.setIfInBounds_toArray, List.set_cons_zero, List.set_cons_succ]
            refine wpAnyH_take (i := 14) (oi := ⟨some 102, _, _, _, _, _⟩) (v := ?vv18) rfl (by kernel_rfl) (by kernel_rfl) (by kernel_rfl) (fun _ _ _ h => h) (Or.inl ⟨by rfl, ?yy18⟩) (by assumption) ?rr18
            case yy18 => (intro wq hSw; (try dsimp only at hSw); go_simp; try with_reducible rfl)
            try simp only [Act.put, List.setIfInBounds_toArray, List.set_cons_zero, List.set_cons_succ]
            refine wpAnyH_ready (rs := [15]) (by kernel_rfl) (by simp) ?_
            refine AllReadyH.cons (o := ⟨none, _, _, _, _, _⟩) rfl (fun K hK => ?_) AllReadyH.nil
            go_simp
            go_simp
            refine hK.out _ _ ?ss19 (fun hHeld2 => ?rr19)
            case ss19 => (try dsimp only); exact HS2.out _ _ _ (bal hb2 _) hg6
            clear hK K
            clear hHeld
            have hHeld := hHeld2
            clear hHeld2
            try simp only [Act.put, List.setIfInBounds_toArray, List.set_cons_zero, List.set_cons_succ]
            refine wpAnyH_done (by kernel_rfl) ?_ _
            go_wp2_with fail
            go_roundg (n - (m + 1))
            case measure => omega
            case rel =>
              obtain ⟨r1, r2, r3, r4⟩ := HREL.out w2 w6 _ A6 c6 hb2 HV5.out hown6 hg6 hV6
              exact ⟨m + 1, _, by omega, rfl, by go_num, r1, r2, r3, r4⟩
          case br13 =>
            go_simp
            ((refine (HCALL.out _).mono ?_); rintro e w2 ⟨v5, rfl, hv5, hb2'⟩; have hb2 : Below wr.heap.size wr w2 := bl (Below.refl _ _).drew hb2'; clear hb2'; have hz3 := HZ3.out w2 hb2; obtain ⟨D5, z5, rfl⟩ := hv5.face; have hz3b := HZ3.out _ (bal hb2 (.cells #[.iface D5 z5] 69)); have HV5 := Lib.hid hv5; clear hv5)
            refine hK.out _ _ ?ss20 (fun hHeld2 => ?rr20)
            case ss20 => (try dsimp only); exact HS.out _ hb2
            clear hK K
            clear hHeld
            have hHeld := hHeld2
            clear hHeld2
            try simp only [Act.put, List.setIfInBounds_toArray, List.set_cons_zero, List.set_cons_succ]
            refine wpAnyH_ready (rs := [1, 12]) (by kernel_rfl) (by simp) ?_
            refine AllReadyH.cons (o := ⟨some 89, _, _, _, _, _⟩) rfl (fun K hK => ?br21) (AllReadyH.cons (o := ⟨some 100, _, _, _, _, _⟩) rfl (fun K hK => ?br22) AllReadyH.nil)
            case br21 =>
              go_simp
              refine hK.out _ _ ?ss23 (fun hHeld2 => ?rr23)
              case ss23 => (try dsimp only); exact hHeld
              clear hK K
              clear hHeld2
              try simp only [Act.put, List.setIfInBounds_toArray, List.set_cons_zero, List.set_cons_succ]
              refine wpAnyH_ready (rs := [12]) (by kernel_rfl) (by simp) ?_
              refine AllReadyH.cons (o := ⟨some 100, _, _, _, _, _⟩) rfl (fun K hK => ?_) AllReadyH.nil
              go_simp
              go_simp
              refine hK.out _ _ ?ss24 (fun hHeld2 => ?rr24)
              case ss24 => (try dsimp only); exact HS.out _ (bal hb2 _)
              clear hK K
              clear hHeld
              have hHeld := hHeld2
              clear hHeld2
              try simp only [Act.put, List.setIfInBounds_toArray, List.set_cons_zero, List.set_cons_succ]
              refine wpAnyH_ready (rs := [13]) (by kernel_rfl) (by simp) ?_
              refine AllReadyH.cons (o := ⟨some 101, _, _, _, _, _⟩) rfl (fun K hK => ?_) AllReadyH.nil
              (refine step_append_sl rfl (.tmp 89) (.tmp 100) _ rfl (G + 1) 69 i0 _ 1 16 Tryz.underlying98 hi0 hz0 hz1 hz2 rfl (by omega) (.slice AV m cV) m vs rfl (HOWN.out _ (bal hb2 _)) (w2.heap.size + 1) (some ⟨w2.heap.size, 0, none⟩) 1 1 [.iface D5 z5] rfl (Sl.one w2 _ _) (HONE.out _ _) (by simp only [maxLen]; omega) (by omega) (HGW.out _ (bal hb2 _)) ?_; intro V' w6 hown6 hg6 hV6; obtain ⟨A6, c6, rfl, hs61, hs62⟩ := own_shape hown6; obtain ⟨hq0, hq1⟩ := HPRE.out _ (bal hb2 _) w6 hg6)
              refine hK.out _ _ ?ss25 (fun hHeld2 => ?rr25)
              case ss25 => (try dsimp only); exact HST.out _ _ (bal hb2 _) hg6
              clear hK K
              clear hHeld
              have hHeld := hHeld2
              clear hHeld2
              try simp only [Act.put, List.setIfInBounds_toArray, List.set_cons_zero, List.set_cons_succ]
              refine wpAnyH_take (i := 14) (oi := ⟨some 102, _, _, _, _, _⟩) (v := ?vv26) rfl (by kernel_rfl) (by kernel_rfl) (by kernel_rfl) (fun _ _ _ h => h) (Or.inl ⟨by rfl, ?yy26⟩) (by assumption) ?rr26
              case yy26 => (intro wq hSw; (try dsimp only at hSw); go_simp; try with_reducible rfl)
              try simp only [Act.put, List.setIfInBounds_toArray, List.set_cons_zero, List.set_cons_succ]
              refine wpAnyH_ready (rs := [15]) (by kernel_rfl) (by simp) ?_
              refine AllReadyH.cons (o := ⟨none, _, _, _, _, _⟩) rfl (fun K hK => ?_) AllReadyH.nil
              go_simp
              go_simp
              refine hK.out _ _ ?ss27 (fun hHeld2 => ?rr27)
              case ss27 => (try dsimp only); exact HS2.out _ _ _ (bal hb2 _) hg6
              clear hK K
              clear hHeld
              have hHeld := hHeld2
              clear hHeld2
              try simp only [Act.put, List.setIfInBounds_toArray, List.set_cons_zero, List.set_cons_succ]
              refine wpAnyH_done (by kernel_rfl) ?_ _
              go_wp2_with fail
              go_roundg (n - (m + 1))
              case measure => omega
              case rel =>
                obtain ⟨r1, r2, r3, r4⟩ := HREL.out w2 w6 _ A6 c6 hb2 HV5.out hown6 hg6 hV6
                exact ⟨m + 1, _, by omega, rfl, by go_num, r1, r2, r3, r4⟩
            case br22 =>
              go_simp
              go_simp
              refine hK.out _ _ ?ss28 (fun hHeld2 => ?rr28)
              case ss28 => (try dsimp only); exact HS.out _ (bal hb2 _)
              clear hK K
              clear hHeld
              have hHeld := hHeld2
              clear hHeld2
              try simp only [Act.put, List.setIfInBounds_toArray, List.set_cons_zero, List.set_cons_succ]
              refine wpAnyH_ready (rs := [1]) (by kernel_rfl) (by simp) ?_
              refine AllReadyH.cons (o := ⟨some 89, _, _, _, _, _⟩) rfl (fun K hK => ?_) AllReadyH.nil
              go_simp
              refine hK.out _ _ ?ss29 (fun hHeld2 => ?rr29)
              case ss29 => (try dsimp only); exact hHeld
              clear hK K
              clear hHeld2
              try simp only [Act.put, List.setIfInBounds_toArray, List.set_cons_zero, List.set_cons_succ]
              refine wpAnyH_ready (rs := [13]) (by kernel_rfl) (by simp) ?_
              refine AllReadyH.cons (o := ⟨some 101, _, _, _, _, _⟩) rfl (fun K hK => ?_) AllReadyH.nil
              (refine step_append_sl rfl (.tmp 89) (.tmp 100) _ rfl (G + 1) 69 i0 _ 1 16 Tryz.underlying98 hi0 hz0 hz1 hz2 rfl (by omega) (.slice AV m cV) m vs rfl (HOWN.out _ (bal hb2 _)) (w2.heap.size + 1) (some ⟨w2.heap.size, 0, none⟩) 1 1 [.iface D5 z5] rfl (Sl.one w2 _ _) (HONE.out _ _) (by simp only [maxLen]; omega) (by omega) (HGW.out _ (bal hb2 _)) ?_; intro V' w6 hown6 hg6 hV6; obtain ⟨A6, c6, rfl, hs61, hs62⟩ := own_shape hown6; obtain ⟨hq0, hq1⟩ := HPRE.out _ (bal hb2 _) w6 hg6)
              refine hK.out _ _ ?ss30 (fun hHeld2 => ?rr30)
              case ss30 => (try dsimp only); exact HST.out _ _ (bal hb2 _) hg6
              clear hK K
              clear hHeld
              have hHeld := hHeld2
              clear hHeld2
              try simp only [Act.put, List.setIfInBounds_toArray, List.set_cons_zero, List.set_cons_succ]
              refine wpAnyH_take (i := 14) (oi := ⟨some 102, _, _, _, _, _⟩) (v := ?vv31) rfl (by kernel_rfl) (by kernel_rfl) (by kernel_rfl) (fun _ _ _ h => h) (Or.inl ⟨by rfl, ?yy31⟩) (by assumption) ?rr31
              case yy31 => (intro wq hSw; (try dsimp only at hSw); go_simp; try with_reducible rfl)
              try simp only [Act.put, List.setIfInBounds_toArray, List.set_cons_zero, List.set_cons_succ]
              refine wpAnyH_ready (rs := [15]) (by kernel_rfl) (by simp) ?_
              refine AllReadyH.cons (o := ⟨none, _, _, _, _, _⟩) rfl (fun K hK => ?_) AllReadyH.nil
              go_simp
              go_simp
              refine hK.out _ _ ?ss32 (fun hHeld2 => ?rr32)
              case ss32 => (try dsimp only); exact HS2.out _ _ _ (bal hb2 _) hg6
              clear hK K
              clear hHeld
              have hHeld := hHeld2
              clear hHeld2
              try simp only [Act.put, List.setIfInBounds_toArray, List.set_cons_zero, List.set_cons_succ]
              refine wpAnyH_done (by kernel_rfl) ?_ _
              go_wp2_with fail
              go_roundg (n - (m + 1))
              case measure => omega
              case rel =>
                obtain ⟨r1, r2, r3, r4⟩ := HREL.out w2 w6 _ A6 c6 hb2 HV5.out hown6 hg6 hV6
                exact ⟨m + 1, _, by omega, rfl, by go_num, r1, r2, r3, r4⟩
        · go_wp2_with fail
          refine wp_region_held_drew (S := (fun W' => W0.grownBy W' (some G) ∧ W'.cell? ⟨ga, m, none⟩ = some (.string sa) ∧ W'.cell? ⟨gb, m, none⟩ = some (.string sb))) (by kernel_rfl) ?ss33 (fun hHeld => ?rr33)
          case ss33 => (try dsimp only); exact HS.out _ (Below.refl _ _).drew
          refine wpAnyH_take (i := 0) (oi := ⟨some 72, _, _, _, _, _⟩) (v := ?vv34) rfl (by kernel_rfl) (by kernel_rfl) (by kernel_rfl) (fun _ _ _ h => h) (Or.inl ⟨by rfl, ?yy34⟩) (by assumption) ?rr34
          case yy34 => (intro wq hSw; (try dsimp only at hSw); go_simp; try with_reducible rfl)
          try simp only [Act.put, List.setIfInBounds_toArray, List.set_cons_zero, List.set_cons_succ]
          refine wpAnyH_take (i := 2) (oi := ⟨some 74, _, _, _, _, _⟩) (v := ?vv35) rfl (by kernel_rfl) (by kernel_rfl) (by kernel_rfl) (fun _ _ _ h => h) (Or.inl ⟨by rfl, ?yy35⟩) (by assumption) ?rr35
          case yy35 => (intro wq hSw; (try dsimp only at hSw); go_simp; try with_reducible rfl)
          try simp only [Act.put, List.setIfInBounds_toArray, List.set_cons_zero, List.set_cons_succ]
          refine wpAnyH_take (i := 3) (oi := ⟨some 75, _, _, _, _, _⟩) (v := ?vv36) rfl (by kernel_rfl) (by kernel_rfl) (by kernel_rfl) (fun _ _ _ h => h) (Or.inl ⟨by rfl, ?yy36⟩) (by assumption) ?rr36
          case yy36 => (intro wq hSw; (try dsimp only at hSw); go_simp; try with_reducible rfl)
          try simp only [Act.put, List.setIfInBounds_toArray, List.set_cons_zero, List.set_cons_succ]
          refine wpAnyH_take (i := 4) (oi := ⟨some 76, _, _, _, _, _⟩) (v := ?vv37) rfl (by kernel_rfl) (by kernel_rfl) (by kernel_rfl) (fun _ _ _ h => h) (Or.inl ⟨by rfl, ?yy37⟩) (by assumption) ?rr37
          case yy37 => (intro wq hSw; (try dsimp only at hSw); go_simp; try with_reducible rfl)
          try simp only [Act.put, List.setIfInBounds_toArray, List.set_cons_zero, List.set_cons_succ]
          refine wpAnyH_take (i := 5) (oi := ⟨some 77, _, _, _, _, _⟩) (v := ?vv38) rfl (by kernel_rfl) (by kernel_rfl) (by kernel_rfl) (fun _ _ _ h => h) (Or.inl ⟨by rfl, ?yy38⟩) (by assumption) ?rr38
          case yy38 => (intro wq hSw; (try dsimp only at hSw); go_simp; try with_reducible rfl)
          try simp only [Act.put, List.setIfInBounds_toArray, List.set_cons_zero, List.set_cons_succ]
          refine wpAnyH_take (i := 6) (oi := ⟨some 78, _, _, _, _, _⟩) (v := ?vv39) rfl (by kernel_rfl) (by kernel_rfl) (by kernel_rfl) (fun _ _ _ h => h) (Or.inl ⟨by rfl, ?yy39⟩) (by assumption) ?rr39
          case yy39 => (intro wq hSw; (try dsimp only at hSw); go_simp; try with_reducible rfl)
          try simp only [Act.put, List.setIfInBounds_toArray, List.set_cons_zero, List.set_cons_succ]
          refine wpAnyH_take (i := 7) (oi := ⟨some 79, _, _, _, _, _⟩) (v := ?vv40) rfl (by kernel_rfl) (by kernel_rfl) (by kernel_rfl) (fun _ _ _ h => h) (Or.inl ⟨by rfl, ?yy40⟩) (by assumption) ?rr40
          case yy40 => (intro wq hSw; (try dsimp only at hSw); go_simp; try with_reducible rfl)
          try simp only [Act.put, List.setIfInBounds_toArray, List.set_cons_zero, List.set_cons_succ]
          refine wpAnyH_take (i := 8) (oi := ⟨some 80, _, _, _, _, _⟩) (v := ?vv41) rfl (by kernel_rfl) (by kernel_rfl) (by kernel_rfl) (fun _ _ _ h => h) (Or.inl ⟨by rfl, ?yy41⟩) (by assumption) ?rr41
          case yy41 => (intro wq hSw; (try dsimp only at hSw); go_simp; try with_reducible rfl)
          try simp only [Act.put, List.setIfInBounds_toArray, List.set_cons_zero, List.set_cons_succ]
          refine wpAnyH_take (i := 9) (oi := ⟨some 81, _, _, _, _, _⟩) (v := ?vv42) rfl (by kernel_rfl) (by kernel_rfl) (by kernel_rfl) (fun _ _ _ h => h) (Or.inl ⟨by rfl, ?yy42⟩) (by assumption) ?rr42
          case yy42 => (intro wq hSw; (try dsimp only at hSw); go_simp; try with_reducible rfl)
          try simp only [Act.put, List.setIfInBounds_toArray, List.set_cons_zero, List.set_cons_succ]
          refine wpAnyH_take (i := 10) (oi := ⟨some 82, _, _, _, _, _⟩) (v := ?vv43) rfl (by kernel_rfl) (by kernel_rfl) (by kernel_rfl) (fun _ _ _ h => h) (Or.inl ⟨by rfl, ?yy43⟩) (by assumption) ?rr43
          case yy43 => (intro wq hSw; (try dsimp only at hSw); go_simp; try with_reducible rfl)
          try simp only [Act.put, List.setIfInBounds_toArray, List.set_cons_zero, List.set_cons_succ]
          refine wpAnyH_take (i := 11) (oi := ⟨some 83, _, _, _, _, _⟩) (v := ?vv44) rfl (by kernel_rfl) (by kernel_rfl) (by kernel_rfl) (fun _ _ _ h => h) (Or.inl ⟨by rfl, ?yy44⟩) (by assumption) ?rr44
          case yy44 => (intro wq hSw; (try dsimp only at hSw); go_simp; try with_reducible rfl)
          try simp only [Act.put, List.setIfInBounds_toArray, List.set_cons_zero, List.set_cons_succ]
          refine wpAnyH_ready (rs := [1, 12]) (by kernel_rfl) (by simp) ?_
          refine AllReadyH.cons (o := ⟨some 73, _, _, _, _, _⟩) rfl (fun K hK => ?br45) (AllReadyH.cons (o := ⟨some 84, _, _, _, _, _⟩) rfl (fun K hK => ?br46) AllReadyH.nil)
          case br45 =>
            go_simp
            refine hK.out _ _ ?ss47 (fun hHeld2 => ?rr47)
            case ss47 => (try dsimp only); exact hHeld
            clear hK K
            clear hHeld2
            try simp only [Act.put, List.setIfInBounds_toArray, List.set_cons_zero, List.set_cons_succ]
            refine wpAnyH_ready (rs := [12]) (by kernel_rfl) (by simp) ?_
            refine AllReadyH.cons (o := ⟨some 84, _, _, _, _, _⟩) rfl (fun K hK => ?_) AllReadyH.nil
            go_simp
            ((refine (HCALL.out _).mono ?_); rintro e w2 ⟨v5, rfl, hv5, hb2'⟩; have hb2 : Below wr.heap.size wr w2 := bl (Below.refl _ _).drew hb2'; clear hb2'; have hz3 := HZ3.out w2 hb2; obtain ⟨D5, z5, rfl⟩ := hv5.face; have hz3b := HZ3.out _ (bal hb2 (.cells #[.iface D5 z5] 69)); have HV5 := Lib.hid hv5; clear hv5)
            refine hK.out _ _ ?ss48 (fun hHeld2 => ?rr48)
            case ss48 => (try dsimp only); exact HS.out _ hb2
            clear hK K
            clear hHeld
            have hHeld := hHeld2
            clear hHeld2
            try simp only [Act.put, List.setIfInBounds_toArray, List.set_cons_zero, List.set_cons_succ]
            refine wpAnyH_ready (rs := [13]) (by kernel_rfl) (by simp) ?_
            refine AllReadyH.cons (o := ⟨some 85, _, _, _, _, _⟩) rfl (fun K hK => ?_) AllReadyH.nil
            go_simp
            go_simp
            refine hK.out _ _ ?ss49 (fun hHeld2 => ?rr49)
            case ss49 => (try dsimp only); exact HS.out _ (bal hb2 _)
            clear hK K
            clear hHeld
            have hHeld := hHeld2
            clear hHeld2
            try simp only [Act.put, List.setIfInBounds_toArray, List.set_cons_zero, List.set_cons_succ]
            refine wpAnyH_ready (rs := [14]) (by kernel_rfl) (by simp) ?_
            refine AllReadyH.cons (o := ⟨some 86, _, _, _, _, _⟩) rfl (fun K hK => ?_) AllReadyH.nil
            (refine step_append_sl rfl (.tmp 73) (.tmp 85) _ rfl (G + 1) 69 i0 _ 1 16 Tryz.underlying98 hi0 hz0 hz1 hz2 rfl (by omega) (.slice AV m cV) m vs rfl (HOWN.out _ (bal hb2 _)) (w2.heap.size + 1) (some ⟨w2.heap.size, 0, none⟩) 1 1 [.iface D5 z5] rfl (Sl.one w2 _ _) (HONE.out _ _) (by simp only [maxLen]; omega) (by omega) (HGW.out _ (bal hb2 _)) ?_; intro V' w6 hown6 hg6 hV6; obtain ⟨A6, c6, rfl, hs61, hs62⟩ := own_shape hown6; obtain ⟨hq0, hq1⟩ := HPRE.out _ (bal hb2 _) w6 hg6)
            refine hK.out _ _ ?ss50 (fun hHeld2 => ?rr50)
            case ss50 => (try dsimp only); exact HST.out _ _ (bal hb2 _) hg6
            clear hK K
            clear hHeld
            have hHeld := hHeld2
            clear hHeld2
            try simp only [Act.put, List.setIfInBounds_toArray, List.set_cons_zero, List.set_cons_succ]
            refine wpAnyH_take (i := 15) (oi := ⟨some 87, _, _, _, _, _⟩) (v := ?vv51) rfl (by kernel_rfl) (by kernel_rfl) (by kernel_rfl) (fun _ _ _ h => h) (Or.inl ⟨by rfl, ?yy51⟩) (by assumption) ?rr51
            case yy51 => (intro wq hSw; (try dsimp only at hSw); go_simp; try with_reducible rfl)
            try simp only [Act.put, List.setIfInBounds_toArray, List.set_cons_zero, List.set_cons_succ]
            refine wpAnyH_ready (rs := [16]) (by kernel_rfl) (by simp) ?_
            refine AllReadyH.cons (o := ⟨none, _, _, _, _, _⟩) rfl (fun K hK => ?_) AllReadyH.nil
            go_simp
            go_simp
            refine hK.out _ _ ?ss52 (fun hHeld2 => ?rr52)
            case ss52 => (try dsimp only); exact HS2.out _ _ _ (bal hb2 _) hg6
            clear hK K
            clear hHeld
            have hHeld := hHeld2
            clear hHeld2
            try simp only [Act.put, List.setIfInBounds_toArray, List.set_cons_zero, List.set_cons_succ]
            refine wpAnyH_done (by kernel_rfl) ?_ _
            go_wp2_with fail
            go_roundg (n - (m + 1))
            case measure => omega
            case rel =>
              obtain ⟨r1, r2, r3, r4⟩ := HREL.out w2 w6 _ A6 c6 hb2 HV5.out hown6 hg6 hV6
              exact ⟨m + 1, _, by omega, rfl, by go_num, r1, r2, r3, r4⟩
          case br46 =>
            go_simp
            ((refine (HCALL.out _).mono ?_); rintro e w2 ⟨v5, rfl, hv5, hb2'⟩; have hb2 : Below wr.heap.size wr w2 := bl (Below.refl _ _).drew hb2'; clear hb2'; have hz3 := HZ3.out w2 hb2; obtain ⟨D5, z5, rfl⟩ := hv5.face; have hz3b := HZ3.out _ (bal hb2 (.cells #[.iface D5 z5] 69)); have HV5 := Lib.hid hv5; clear hv5)
            refine hK.out _ _ ?ss53 (fun hHeld2 => ?rr53)
            case ss53 => (try dsimp only); exact HS.out _ hb2
            clear hK K
            clear hHeld
            have hHeld := hHeld2
            clear hHeld2
            try simp only [Act.put, List.setIfInBounds_toArray, List.set_cons_zero, List.set_cons_succ]
            refine wpAnyH_ready (rs := [1, 13]) (by kernel_rfl) (by simp) ?_
            refine AllReadyH.cons (o := ⟨some 73, _, _, _, _, _⟩) rfl (fun K hK => ?br54) (AllReadyH.cons (o := ⟨some 85, _, _, _, _, _⟩) rfl (fun K hK => ?br55) AllReadyH.nil)
            case br54 =>
              go_simp
              refine hK.out _ _ ?ss56 (fun hHeld2 => ?rr56)
              case ss56 => (try dsimp only); exact hHeld
              clear hK K
              clear hHeld2
              try simp only [Act.put, List.setIfInBounds_toArray, List.set_cons_zero, List.set_cons_succ]
              refine wpAnyH_ready (rs := [13]) (by kernel_rfl) (by simp) ?_
              refine AllReadyH.cons (o := ⟨some 85, _, _, _, _, _⟩) rfl (fun K hK => ?_) AllReadyH.nil
              go_simp
              go_simp
              refine hK.out _ _ ?ss57 (fun hHeld2 => ?rr57)
              case ss57 => (try dsimp only); exact HS.out _ (bal hb2 _)
              clear hK K
              clear hHeld
              have hHeld := hHeld2
              clear hHeld2
              try simp only [Act.put, List.setIfInBounds_toArray, List.set_cons_zero, List.set_cons_succ]
              refine wpAnyH_ready (rs := [14]) (by kernel_rfl) (by simp) ?_
              refine AllReadyH.cons (o := ⟨some 86, _, _, _, _, _⟩) rfl (fun K hK => ?_) AllReadyH.nil
              (refine step_append_sl rfl (.tmp 73) (.tmp 85) _ rfl (G + 1) 69 i0 _ 1 16 Tryz.underlying98 hi0 hz0 hz1 hz2 rfl (by omega) (.slice AV m cV) m vs rfl (HOWN.out _ (bal hb2 _)) (w2.heap.size + 1) (some ⟨w2.heap.size, 0, none⟩) 1 1 [.iface D5 z5] rfl (Sl.one w2 _ _) (HONE.out _ _) (by simp only [maxLen]; omega) (by omega) (HGW.out _ (bal hb2 _)) ?_; intro V' w6 hown6 hg6 hV6; obtain ⟨A6, c6, rfl, hs61, hs62⟩ := own_shape hown6; obtain ⟨hq0, hq1⟩ := HPRE.out _ (bal hb2 _) w6 hg6)
              refine hK.out _ _ ?ss58 (fun hHeld2 => ?rr58)
              case ss58 => (try dsimp only); exact HST.out _ _ (bal hb2 _) hg6
              clear hK K
              clear hHeld
              have hHeld := hHeld2
              clear hHeld2
              try simp only [Act.put, List.setIfInBounds_toArray, List.set_cons_zero, List.set_cons_succ]
              refine wpAnyH_take (i := 15) (oi := ⟨some 87, _, _, _, _, _⟩) (v := ?vv59) rfl (by kernel_rfl) (by kernel_rfl) (by kernel_rfl) (fun _ _ _ h => h) (Or.inl ⟨by rfl, ?yy59⟩) (by assumption) ?rr59
              case yy59 => (intro wq hSw; (try dsimp only at hSw); go_simp; try with_reducible rfl)
              try simp only [Act.put, List.setIfInBounds_toArray, List.set_cons_zero, List.set_cons_succ]
              refine wpAnyH_ready (rs := [16]) (by kernel_rfl) (by simp) ?_
              refine AllReadyH.cons (o := ⟨none, _, _, _, _, _⟩) rfl (fun K hK => ?_) AllReadyH.nil
              go_simp
              go_simp
              refine hK.out _ _ ?ss60 (fun hHeld2 => ?rr60)
              case ss60 => (try dsimp only); exact HS2.out _ _ _ (bal hb2 _) hg6
              clear hK K
              clear hHeld
              have hHeld := hHeld2
              clear hHeld2
              try simp only [Act.put, List.setIfInBounds_toArray, List.set_cons_zero, List.set_cons_succ]
              refine wpAnyH_done (by kernel_rfl) ?_ _
              go_wp2_with fail
              go_roundg (n - (m + 1))
              case measure => omega
              case rel =>
                obtain ⟨r1, r2, r3, r4⟩ := HREL.out w2 w6 _ A6 c6 hb2 HV5.out hown6 hg6 hV6
                exact ⟨m + 1, _, by omega, rfl, by go_num, r1, r2, r3, r4⟩
            case br55 =>
              go_simp
              go_simp
              refine hK.out _ _ ?ss61 (fun hHeld2 => ?rr61)
              case ss61 => (try dsimp only); exact HS.out _ (bal hb2 _)
              clear hK K
              clear hHeld
              have hHeld := hHeld2
              clear hHeld2
              try simp only [Act.put, List.setIfInBounds_toArray, List.set_cons_zero, List.set_cons_succ]
              refine wpAnyH_ready (rs := [1]) (by kernel_rfl) (by simp) ?_
              refine AllReadyH.cons (o := ⟨some 73, _, _, _, _, _⟩) rfl (fun K hK => ?_) AllReadyH.nil
              go_simp
              refine hK.out _ _ ?ss62 (fun hHeld2 => ?rr62)
              case ss62 => (try dsimp only); exact hHeld
              clear hK K
              clear hHeld2
              try simp only [Act.put, List.setIfInBounds_toArray, List.set_cons_zero, List.set_cons_succ]
              refine wpAnyH_ready (rs := [14]) (by kernel_rfl) (by simp) ?_
              refine AllReadyH.cons (o := ⟨some 86, _, _, _, _, _⟩) rfl (fun K hK => ?_) AllReadyH.nil
              (refine step_append_sl rfl (.tmp 73) (.tmp 85) _ rfl (G + 1) 69 i0 _ 1 16 Tryz.underlying98 hi0 hz0 hz1 hz2 rfl (by omega) (.slice AV m cV) m vs rfl (HOWN.out _ (bal hb2 _)) (w2.heap.size + 1) (some ⟨w2.heap.size, 0, none⟩) 1 1 [.iface D5 z5] rfl (Sl.one w2 _ _) (HONE.out _ _) (by simp only [maxLen]; omega) (by omega) (HGW.out _ (bal hb2 _)) ?_; intro V' w6 hown6 hg6 hV6; obtain ⟨A6, c6, rfl, hs61, hs62⟩ := own_shape hown6; obtain ⟨hq0, hq1⟩ := HPRE.out _ (bal hb2 _) w6 hg6)
              refine hK.out _ _ ?ss63 (fun hHeld2 => ?rr63)
              case ss63 => (try dsimp only); exact HST.out _ _ (bal hb2 _) hg6
              clear hK K
              clear hHeld
              have hHeld := hHeld2
              clear hHeld2
              try simp only [Act.put, List.setIfInBounds_toArray, List.set_cons_zero, List.set_cons_succ]
              refine wpAnyH_take (i := 15) (oi := ⟨some 87, _, _, _, _, _⟩) (v := ?vv64) rfl (by kernel_rfl) (by kernel_rfl) (by kernel_rfl) (fun _ _ _ h => h) (Or.inl ⟨by rfl, ?yy64⟩) (by assumption) ?rr64
              case yy64 => (intro wq hSw; (try dsimp only at hSw); go_simp; try with_reducible rfl)
              try simp only [Act.put, List.setIfInBounds_toArray, List.set_cons_zero, List.set_cons_succ]
              refine wpAnyH_ready (rs := [16]) (by kernel_rfl) (by simp) ?_
              refine AllReadyH.cons (o := ⟨none, _, _, _, _, _⟩) rfl (fun K hK => ?_) AllReadyH.nil
              go_simp
              go_simp
              refine hK.out _ _ ?ss65 (fun hHeld2 => ?rr65)
              case ss65 => (try dsimp only); exact HS2.out _ _ _ (bal hb2 _) hg6
              clear hK K
              clear hHeld
              have hHeld := hHeld2
              clear hHeld2
              try simp only [Act.put, List.setIfInBounds_toArray, List.set_cons_zero, List.set_cons_succ]
              refine wpAnyH_done (by kernel_rfl) ?_ _
              go_wp2_with fail
              go_roundg (n - (m + 1))
              case measure => omega
              case rel =>
                obtain ⟨r1, r2, r3, r4⟩ := HREL.out w2 w6 _ A6 c6 hb2 HV5.out hown6 hg6 hV6
                exact ⟨m + 1, _, by omega, rfl, by go_num, r1, r2, r3, r4⟩
      · obtain rfl : m = n := by omega
        have p0 := HBK.out.cell 0
        have p1 := HBK.out.cell 1
        have p2 := HBK.out.cell 2
        have p3 := HBK.out.cell 3
        simp only [List.getElem?_toArray, List.getElem?_cons_zero, List.getElem?_cons_succ] at p0 p1 p2 p3
        go_wp2_with fail
        go_ret
        refine ⟨_, rfl, ?_, HB.out.grown HBG.out HB.out.size (fun x hx => by injection hx with hx; omega)⟩
        rw [← HR.out]
        exact HKD.out.part ((mkR_len hnb).trans HN.out.symm) (fun b hb => by rcases hb with h | h; exact h.elim; show w.heap.size ≤ b; omega) 0 false

theorem make_any (d : Nat) : MakeC d := by
  induction d with
  | zero =>
    intro S T p w hS hT hS64 hT64 hc hm hp0 hp1
    have := ms_pos S T
    omega
  | succ d ih =>
    intro S T p w hS hT hS64 hT64 hc hm hp0 hp1
    by_cases h1 : S.head = 63
    · by_cases h2 : T.head = 63
      · rw [mk_qq h1 h2]; exact make_qq S T p w hS hT h1 h2
      · exact make_proj S T p w d ih hS hT hT64 h1 h2 hm hp0 hp1
    · by_cases h2 : T.head = 63
      · exact make_inj S T p w d ih hS hT hS64 h1 h2 hm hp0 hp1
      · exact make_partW S T p w d ih hS hT hS64 hT64 hc h1 h2 hm hp0 hp1
end Go.Proofs.YtjklecncdinabaaGreatDoor.C
