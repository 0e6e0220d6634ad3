/- Parts of this claim: CeF, CeU. -/
import Derived.Lib.ConvBytes
import Derived.Test.YtobplngonkdbpaaGreatDoorP06
set_option linter.unusedVariables false
set_option linter.unusedSimpArgs false
/- CeF -/
namespace Go.Proofs.YtobplngonkdbpaaGreatDoor.D
open Go.RowKit
open Go.Proofs.YtobplngonkdbpaaGreatDoor.B
set_option linter.unusedVariables false
set_option linter.unusedSimpArgs false
theorem but_set {C : Nat -> Prop} {a w : World} (h : But C a w) {b i : Nat} (hb : C b) (v : Value) : But C a (w.setCell ⟨b, i, none⟩ v) := by
 refine ⟨h.os, h.tape, h.output, by simpa [World.setCell] using h.size, fun k hk hc => ?_⟩
 rw [<- h.block k hk hc]
 have : b ≠ k := fun e => hc (e ▸ hb)
 simp [World.setCell, Array.getElem?_modify, this]
theorem numV_none {s : Bs} (h : ∀ n, Lib.parseIntB 64 s ≠ .ok n) : numV s = none := by
 unfold numV
 split
 · rename_i v hv; exact absurd hv (h v)
 · rfl
theorem intSat_in (s : Bs) : inR (Lib.intSat 64 s) := by
 unfold Lib.intSat
 split <;> (try split) <;> exact ⟨by decide, by decide⟩
theorem parse_c (s : Bs) (w : World) (hl : s.length <= 1073741824) (hg : Gl w) :
  Calls Tryz.prog 164 #[strV s, .int .i64 10, .int .i64 64] w fun e w' => ∃ n er, e = .returned (.tuple #[.int .i64 n, er]) /\ inR n /\
   ((er = .nilIface /\ Lib.parseIntB 64 s = .ok n) \/ ((∃ te p, er = .iface te p) /\ numV s = none)) /\ Below w.heap.size w w' := by
 have hz := str_size s
 have hd : (⟨s.toArray⟩ : ByteArray).data.toList = s := rfl
 rcases hp : Lib.parseIntB 64 s with v | _ | _
 ·
  refine (Tryz.strconv_ParseInt_10_at64_ok ⟨s.toArray⟩ (by omega) v (by rw [hd]; exact hp) w).mono ?_
  rintro e w' ⟨rfl, hw⟩
  have hb := Lib.parseIntB_bounds hp
  refine ⟨v, .nilIface, rfl, ⟨by simpa using hb.1, by have := hb.2; simp at this; omega⟩, .inl ⟨rfl, rfl⟩, ?_⟩
  rcases hw with rfl | ⟨t, rfl⟩
  · exact Below.refl _ _
  · exact Lib.bytesWorld_below _ _ _
 ·
  obtain ⟨ev, h1, h2⟩ := hg.es
  refine (Tryz.strconv_ParseInt_10_at64_syntax ⟨s.toArray⟩ (by omega) (by rw [hd]; exact hp) ev w h1 h2).mono ?_
  rintro e w' ⟨N, rfl, _, _, hb⟩
  exact ⟨0, _, rfl, ⟨by decide, by decide⟩, .inr ⟨⟨_, _, rfl⟩, numV_none fun n => by rw [hp]; simp⟩, hb⟩
 ·
  obtain ⟨ev, h1, h2⟩ := hg.er
  refine (Tryz.strconv_ParseInt_10_at64_range ⟨s.toArray⟩ (by omega) (by rw [hd]; exact hp) ev w h1 h2).mono ?_
  rintro e w' ⟨N, rfl, _, _, hb⟩
  exact ⟨_, _, rfl, intSat_in _, .inr ⟨⟨_, _, rfl⟩, numV_none fun n => by rw [hp]; simp⟩, hb⟩
/-- What a reading of fields leaves: the word's number, if it is one; whether all were good. -/
def NumQ (cf : Nat) (s : Bs) (lo hi : Int) (g : Bool) (w : World) (e : Ending) (w' : World) : Prop :=
 ∃ n, e = .returned (.int .i64 n) /\ inR n /\ (∀ v, numB lo hi s = some v -> n = v) /\ Blk w' cf 141 #[.bool (g && (numB lo hi s).isSome)] /\ But (fun k => k = cf) w w'
theorem blk_set1 {w : World} {g : Nat} {t : TypeId} {u : Value} (h : Blk w g t #[u]) (v : Value) : Blk (w.setCell ⟨g, 0, none⟩ v) g t #[v] := by
 unfold Blk at h ⊢
 simp [World.setCell, Array.getElem?_modify, h]
theorem numQ_end {cf : Nat} {s : Bs} {lo hi n : Int} {g g0 b : Bool} {w w1 : World} (hn : inR n) (hb : Below w.heap.size w w1) (hbk : Blk w1 cf 141 #[.bool g0])
  (h : b = (g && (numB lo hi s).isSome)) (hv : ∀ v, numB lo hi s = some v -> n = v) : NumQ cf s lo hi g w (.returned (.int .i64 n)) (w1.setCell ⟨cf, 0, none⟩ (.bool b)) := by
 subst h
 exact ⟨n, rfl, hn, hv, blk_set1 hbk _, but_set (C := fun k => k = cf) (But.of_below hb) rfl _⟩
theorem numB_of {s : Bs} {lo hi n : Int} (h : Lib.parseIntB 64 s = .ok n) : numB lo hi s = if Lib.itoa n = s /\ lo <= n /\ n <= hi then some n else none := by
 unfold numB numV
 rw [h]
 by_cases h1 : Lib.itoa n = s
 · simp only [h1, if_true, true_and]
 · simp only [h1, if_false, false_and]
theorem numB_bad {s : Bs} {lo hi : Int} (h : numV s = none) : numB lo hi s = none := by unfold numB; rw [h]
set_option maxRecDepth 100000 in
set_option maxHeartbeats 2000000 in
theorem number_c (cf : Nat) (s : Bs) (lo hi : Int) (g : Bool) (w : World) (hl : s.length <= 1073741824) (hg : Gl w) (hb : Blk w cf 141 #[.bool g]) (h8 : 8 <= cf) :
  Calls Tryz.prog 134 #[.pointer (some ⟨cf, 0, none⟩), strV s, .int .i64 lo, .int .i64 hi] w fun e w' => NumQ cf s lo hi g w e w' := by
 have hp := parse_c s w hl hg
 have hcf := hb.lt
 have HG := Lib.hid hg
 have HB := Lib.hid hb
 clear hg hb
 unfold strV at hp ⊢
 go_enter Tryz.func134, Tryz.ntmps134
 go_wp2_with fail
 (refine hp.mono ?_); rintro ev w1 ⟨n, er, rfl, hn, her, hb1⟩
 clear hp
 have hbk1 := HB.out.below hb1 hcf
 have c0 := (hbk1.cell 0).trans rfl
 have z0 := hbk1.frozen 0
 have hN := num_c n w1 hn (HG.out.on hb1)
 unfold strV at hN
 have HN := Lib.hid hN
 clear hN
 have HBK := Lib.hid hbk1
 have HER := Lib.hid her
 have HNR := Lib.hid hn
 have HB1 := Lib.hid hb1
 clear hbk1 her hb1 hn
 simp only [List.getElem?_toArray, List.getElem?_cons_zero] at c0
 cases g with
 | false =>
  go_wp2_with fail
  go_ret
  rcases HER.out with ⟨_, hp⟩ | ⟨_, hp⟩
  ·
   refine numQ_end HNR.out HB1.out HBK.out (by simp) fun v hv => ?_
   rw [numB_of hp] at hv
   split at hv
   · injection hv
   · cases hv
  · exact numQ_end HNR.out HB1.out HBK.out (by simp) fun v hv => by rw [numB_bad hp] at hv; cases hv
 | true =>
  rcases HER.out with ⟨rfl, hp⟩ | ⟨⟨te, p, rfl⟩, hp⟩
  ·
   have HP := Lib.hid hp
   clear hp HER
   by_cases he : Lib.itoa n = s
   ·
    by_cases h1 : lo <= n
    ·
     by_cases h2 : n <= hi
     ·
      go_wp2_with fail
      (refine HN.out.mono ?_); rintro ev w2 ⟨rfl, hb2⟩
      have hbk2 := HBK.out.below hb2 HBK.out.lt
      have c2 := (hbk2.cell 0).trans rfl
      have z2 := hbk2.frozen 0
      have HBK2 := Lib.hid (And.intro hbk2 (bl HB1.out hb2))
      clear hbk2 hb2
      go_wp2_with fail
      go_ret
      exact numQ_end HNR.out HBK2.out.2 HBK2.out.1 (by rw [numB_of HP.out, if_pos ⟨he, h1, h2⟩]; rfl) fun v hv => by rw [numB_of HP.out, if_pos ⟨he, h1, h2⟩] at hv; injection hv
     ·
      skip
      go_wp2_with fail
      (refine HN.out.mono ?_); rintro ev w2 ⟨rfl, hb2⟩
      have hbk2 := HBK.out.below hb2 HBK.out.lt
      have c2 := (hbk2.cell 0).trans rfl
      have z2 := hbk2.frozen 0
      have HBK2 := Lib.hid (And.intro hbk2 (bl HB1.out hb2))
      clear hbk2 hb2
      go_wp2_with fail
      go_ret
      exact numQ_end HNR.out HBK2.out.2 HBK2.out.1 (by rw [numB_of HP.out, if_neg (fun h => by have := h.2.1; have := h.2.2; omega)]; simp <;> omega) fun v hv => by rw [numB_of HP.out, if_neg (fun h => by have := h.2.1; have := h.2.2; omega)] at hv; cases hv
    ·
     skip
     go_wp2_with fail
     (refine HN.out.mono ?_); rintro ev w2 ⟨rfl, hb2⟩
     have hbk2 := HBK.out.below hb2 HBK.out.lt
     have c2 := (hbk2.cell 0).trans rfl
     have z2 := hbk2.frozen 0
     have HBK2 := Lib.hid (And.intro hbk2 (bl HB1.out hb2))
     clear hbk2 hb2
     go_wp2_with fail
     go_ret
     exact numQ_end HNR.out HBK2.out.2 HBK2.out.1 (by rw [numB_of HP.out, if_neg (fun h => by have := h.2.1; have := h.2.2; omega)]; simp <;> omega) fun v hv => by rw [numB_of HP.out, if_neg (fun h => by have := h.2.1; have := h.2.2; omega)] at hv; cases hv
   ·
    skip
    go_wp2_with fail
    (refine HN.out.mono ?_); rintro ev w2 ⟨rfl, hb2⟩
    have hbk2 := HBK.out.below hb2 HBK.out.lt
    have c2 := (hbk2.cell 0).trans rfl
    have z2 := hbk2.frozen 0
    have HBK2 := Lib.hid (And.intro hbk2 (bl HB1.out hb2))
    clear hbk2 hb2
    go_wp2_with fail
    go_ret
    exact numQ_end HNR.out HBK2.out.2 HBK2.out.1 (by rw [numB_of HP.out, if_neg (fun h => he h.1)]; rfl) fun v hv => by rw [numB_of HP.out, if_neg (fun h => he h.1)] at hv; cases hv
  ·
   go_wp2_with fail
   go_ret
   exact numQ_end HNR.out HB1.out HBK.out (by rw [numB_bad hp]; rfl) fun v hv => by rw [numB_bad hp] at hv; cases hv
theorem numB_all (s : Bs) : numB (-9223372036854775808) 9223372036854775807 s = numV s := by
 unfold numB
 rcases h : numV s with _ | v
 · rfl
 ·
  obtain ⟨_, h1, h2⟩ := numV_some h
  simp only
  rw [if_pos ⟨h1, h2⟩]
theorem any_c (cf : Nat) (s : Bs) (g : Bool) (w : World) (hl : s.length <= 1073741824) (hg : Gl w) (hb : Blk w cf 141 #[.bool g]) (h8 : 8 <= cf) :
  Calls Tryz.prog 102 #[.pointer (some ⟨cf, 0, none⟩), strV s] w fun e w' => NumQ cf s (-9223372036854775808) 9223372036854775807 g w e w' := by
 have h := number_c cf s (-9223372036854775808) 9223372036854775807 g w hl hg hb h8
 clear hg hb
 unfold NumQ at h ⊢
 go_enter Tryz.func102, Tryz.ntmps102
 go_wp2_with fail
 (refine h.mono ?_); rintro ev w1 ⟨n, rfl, hn⟩
 go_wp2_with fail
 go_ret
 exact ⟨n, rfl, hn⟩
end Go.Proofs.YtobplngonkdbpaaGreatDoor.D
/- CeU -/
namespace Go.Proofs.YtobplngonkdbpaaGreatDoor.D
open Go.RowKit
open Go.Proofs.YtobplngonkdbpaaGreatDoor.B
set_option linter.unusedVariables false
set_option linter.unusedSimpArgs false
/-- What is known of two digits. -/
def Two (s : Bs) (k N : Nat) : Prop := ∀ y : UInt8, s = [hexD (y.toNat / 16), hexD (y.toNat % 16)] -> (k = 0 -> N = 0) /\ (k = 1 -> N = y.toNat / 16) /\ (k = 2 -> N = y.toNat)
def UintQ (w : World) (s : Bs) (e : Ending) (w' : World) : Prop := ∃ (n : Nat) (er : Value), e = .returned (.tuple #[.int .u64 n, er]) /\ n < 256 /\
 (er = .nilIface \/ er = .iface 234 (.int .i64 2)) /\ (∀ y : UInt8, s = [hexD (y.toNat / 16), hexD (y.toNat % 16)] -> er = .nilIface /\ n = y.toNat) /\ Below w.heap.size w w'
theorem hexD_nat {a : Nat} (h : a < 16) : (hexD a).toNat = if a < 10 then 48 + a else 87 + a := by
 have key : ∀ a : Fin 16, (hexD a.val).toNat = if a.val < 10 then 48 + a.val else 87 + a.val := by decide
 exact key ⟨a, h⟩
theorem two_step {s : Bs} {k N d P : Nat} {x : UInt8} (hT : Two s k N) (hx : s[k]? = some x) (hd : ∀ a, a < 16 -> x = hexD a -> d = a) (hP : P = N * 16 + d) : Two s (k + 1) P := by
 intro y hy
 have hy8 := y.toNat_lt
 obtain ⟨h0, h1, h2⟩ := hT y hy
 refine ⟨fun h => by omega, fun h => ?_, fun h => ?_⟩
 ·
  obtain rfl : k = 0 := by omega
  rw [hy] at hx
  injection hx with hx
  have := hd _ (by omega) hx.symm
  have := h0 rfl
  omega
 ·
  obtain rfl : k = 1 := by omega
  rw [hy] at hx
  injection hx with hx
  have := hd _ (by omega) hx.symm
  have := h1 rfl
  omega
theorem or32 {a : Nat} (h : a < 16) (h2 : 10 <= a) : bits BinOp.or IntKind.u8 ((87 + a : Nat) : Int) 32 = ((87 + a : Nat) : Int) := by
 have key : ∀ a : Fin 16, 10 <= a.val -> bits BinOp.or IntKind.u8 ((87 + a.val : Nat) : Int) 32 = ((87 + a.val : Nat) : Int) := by decide
 exact key ⟨a, h⟩ h2
theorem two_at {s : Bs} {k : Nat} {x y : UInt8} (hx : s[k]? = some x) (hk : k < 2) (hy : s = [hexD (y.toNat / 16), hexD (y.toNat % 16)]) : ∃ a, a < 16 /\ x = hexD a := by
 have hy8 := y.toNat_lt
 rw [hy] at hx
 rcases (show k = 0 \/ k = 1 by omega) with rfl | rfl
 · injection hx with hx; exact ⟨_, by omega, hx.symm⟩
 · injection hx with hx; exact ⟨_, by omega, hx.symm⟩
set_option maxRecDepth 100000 in
set_option maxHeartbeats 2000000 in
theorem uint_in (s : Bs) (w : World) (hl : s.length <= 2) :
  Calls Tryz.prog 165 #[strV s, .int .i64 16, .int .i64 8] w fun e w' => UintQ w s e w' := by
 have hsz := str_size s
 by_cases h0 : s = []
 ·
  subst h0
  unfold strV
  go_enter Tryz.func165, Tryz.ntmps165
  go_wp2_with fail
  go_ret2
  exact ⟨0, _, rfl, by decide, .inr rfl, fun y hy => (by cases hy), Below.refl _ _⟩
 ·
  have hne : List.isEmpty s = false := by simpa using h0
  unfold strV
  go_enter Tryz.func165, Tryz.ntmps165
  go_wp2_with fail
  rw [Lib.run_convert_string_bytes w _ _ 5 _ Tryz.underlying9 Tryz.underlying71 Tryz.underlying5]
  simp only [Result.andThen]
  rw [Oper.upon_value, hsz]
  have hcells := fun j (hj : j < s.length) => Lib.bytesWorld_cell w 5 ⟨s.toArray⟩ j (by rw [hsz]; exact hj)
  have hbW := Lib.bytesWorld_below w 5 ⟨s.toArray⟩
  generalize Lib.bytesWorld w 5 ⟨s.toArray⟩ = W at hcells hbW ⊢
  generalize grownCap w s.length 0 5 = cap
  have HC := Lib.hid hcells
  have HB := Lib.hid hbW
  clear hcells hbW
  go_wp2_with fail
  go_loopg [12, 13, 101] s.length (fun g us n i wr => ∃ k N : Nat, us = .bool false /\ k <= s.length /\ g = s.length - k /\ i = .int .i64 k /\ n = .int .u64 N /\ N < 16 ^ k /\ Hid (Two s k N) /\ wr = W)
  case atStart => exact ⟨0, 0, rfl, by omega, rfl, rfl, rfl, by decide, Lib.hid (fun y _ => ⟨fun _ => rfl, fun h => (by cases h), fun h => (by cases h)⟩), rfl⟩
  case round =>
   obtain ⟨k, N, rfl, hk, rfl, rfl, rfl, hN, HT, rfl⟩ := hrel
   by_cases hlt : k < s.length
   ·
    obtain ⟨x, hx⟩ : ∃ x, s[k]? = some x := ⟨_, List.getElem?_eq_getElem hlt⟩
    have c0 := HC.out k hlt
    rw [List.getD_eq_getElem?_getD, hx, Option.getD_some] at c0
    have hN2 : N < 16 := by
     have : k = 0 \/ k = 1 := by omega
     rcases this with rfl | rfl <;> omega
    have hlow := fun W => Tryz.internal_strconv_lower (x.toNat : Int) W
    have hx255 := x.toNat_lt
    have HX := Lib.hid hx
    clear hx
    by_cases h1 : 48 <= x.toNat
    ·
     by_cases h2 : x.toNat <= 57
     ·
      have e0 : ((x.toNat : Int) == 95) = false := by simp; omega
      obtain ⟨d, hd⟩ : ∃ d, x.toNat = 48 + d := ⟨x.toNat - 48, by omega⟩
      have e1 : IntKind.u8.wrap ((x.toNat : Int) - 48) = (d : Int) := by rw [IntKind.wrap_u8]; omega
      obtain ⟨M, hM⟩ : ∃ M, N * 16 = M := ⟨_, rfl⟩
      obtain ⟨P, hP⟩ : ∃ P, M + d = P := ⟨_, rfl⟩
      have e2 : IntKind.u64.wrap ((N : Int) * 16) = (M : Int) := by rw [IntKind.wrap_u64]; omega
      have e3 : IntKind.u64.wrap ((M : Int) + (d : Int)) = (P : Int) := by rw [IntKind.wrap_u64]; omega
      have f1 : d < 16 := by omega
      have f2 : decide ((1152921504606846976 : Int) <= (N : Int)) = false := decide_eq_false (by omega)
      have f3 : M <= P := by omega
      have f4 : P <= 255 := by omega
      have HFIN := Lib.hid (show P < 16 ^ (k + 1) /\ Two s (k + 1) P from ⟨by rw [Nat.pow_succ]; omega, two_step (d := d) HT.out HX.out (fun a ha e => by
       have hh := hexD_nat ha
       rw [<- e] at hh
       split at hh <;> omega) (by omega)⟩)
      clear hd hM hP hN hN2
      go_upto_region 50 with fail
      go_wp2_with fail
      go_roundg (s.length - (k + 1))
      case measure => omega
      case rel => exact ⟨k + 1, P, rfl, by omega, rfl, by go_num, rfl, HFIN.out.1, Lib.hid HFIN.out.2, rfl⟩
     ·
      have hk2 : k < 2 := by omega
      have hno : ¬ (48 <= x.toNat /\ x.toNat <= 57) := by omega
      obtain ⟨L, hL⟩ : ∃ L : Int, bits BinOp.or IntKind.u8 (x.toNat : Int) 32 = L := ⟨_, rfl⟩
      have HA0 := Lib.hid (show ∀ a, a < 16 -> x = hexD a -> L = 87 + (a : Int) /\ 10 <= a from fun a ha e => by
       have hh := hexD_nat ha
       rw [<- e] at hh
       split at hh
       · omega
       ·
        have h3 := or32 ha (by omega)
        rw [<- hh, hL] at h3
        omega)
      have hlow2 : ∀ W, Calls Tryz.prog 179 #[.int .u8 x.toNat] W fun e w' => e = .returned (.int .u8 L) /\ w' = W := fun W => by rw [<- hL]; exact hlow W
      have HLOW := Lib.hid hlow2
      have h95 : x.toNat = 95 -> L = 127 := fun e => by rw [<- hL, e]; decide
      clear hlow hlow2 hL
      by_cases hr : 97 <= L /\ L <= 122
      ·
       obtain ⟨d, hd⟩ : ∃ d : Nat, L = 87 + (d : Int) := ⟨(L - 87).toNat, by omega⟩
       have e0 : ((x.toNat : Int) == 95) = false := by
        simp only [beq_eq_false_iff_ne, ne_eq]
        intro e
        have := h95 (by omega)
        omega
       have e1 : IntKind.u8.wrap (L - 97) = L - 97 := by rw [IntKind.wrap_u8]; omega
       have e4 : IntKind.u8.wrap (L - 97 + 10) = (d : Int) := by rw [IntKind.wrap_u8]; omega
       have HA := Lib.hid (show ∀ a, a < 16 -> x = hexD a -> L = 87 + (a : Int) /\ d = a from fun a ha e => by have := HA0.out a ha e; omega)
       by_cases hd16 : d < 16
       ·
        obtain ⟨r1, r2⟩ := hr
        obtain ⟨M, hM⟩ : ∃ M, N * 16 = M := ⟨_, rfl⟩
        obtain ⟨P, hP⟩ : ∃ P, M + d = P := ⟨_, rfl⟩
        have e2 : IntKind.u64.wrap ((N : Int) * 16) = (M : Int) := by rw [IntKind.wrap_u64]; omega
        have e3 : IntKind.u64.wrap ((M : Int) + (d : Int)) = (P : Int) := by rw [IntKind.wrap_u64]; omega
        have f1 : d < 16 := by omega
        have f2 : decide ((1152921504606846976 : Int) <= (N : Int)) = false := decide_eq_false (by omega)
        have f3 : M <= P := by omega
        have f4 : P <= 255 := by omega
        have HFIN := Lib.hid (show P < 16 ^ (k + 1) /\ Two s (k + 1) P from ⟨by rw [Nat.pow_succ]; omega, two_step (d := d) HT.out HX.out (fun a ha e => (HA.out a ha e).2) (by omega)⟩)
        clear hM hP hN hN2 hd h95
        go_wp2_with fail
        (refine (HLOW.out _).mono ?_); rintro ev w1 ⟨rfl, rfl⟩
        go_wp2_with fail
        (refine (HLOW.out _).mono ?_); rintro ev w1 ⟨rfl, rfl⟩
        go_wp2_with fail
        (refine (HLOW.out _).mono ?_); rintro ev w1 ⟨rfl, rfl⟩
        go_wp2_with fail
        skip
        go_wp2_with fail
        go_roundg (s.length - (k + 1))
        case measure => omega
        case rel => exact ⟨k + 1, P, rfl, by omega, rfl, by go_num, rfl, HFIN.out.1, Lib.hid HFIN.out.2, rfl⟩
       ·
        obtain ⟨r1, r2⟩ := hr
        have HBAD := Lib.hid (show ∀ y : UInt8, s ≠ [hexD (y.toNat / 16), hexD (y.toNat % 16)] from fun y hy => by
         obtain ⟨a, ha, e⟩ := two_at HX.out hk2 hy
         have := (HA.out a ha e).2
         omega)
        clear hd hN hN2 h95
        go_wp2_with fail
        (refine (HLOW.out _).mono ?_); rintro ev w1 ⟨rfl, rfl⟩
        go_wp2_with fail
        (refine (HLOW.out _).mono ?_); rintro ev w1 ⟨rfl, rfl⟩
        go_wp2_with fail
        (refine (HLOW.out _).mono ?_); rintro ev w1 ⟨rfl, rfl⟩
        go_wp2_with fail
        go_ret2
        exact ⟨0, _, rfl, by decide, .inr rfl, fun y hy => absurd hy (HBAD.out y), HB.out⟩
      ·
       have HBAD := Lib.hid (show ∀ y : UInt8, s ≠ [hexD (y.toNat / 16), hexD (y.toNat % 16)] from fun y hy => by
        obtain ⟨a, ha, e⟩ := two_at HX.out hk2 hy
        have := HA0.out a ha e
        omega)
       clear hN hN2
       by_cases hr1 : 97 <= L
       ·
        have hr2 : ¬ L <= 122 := fun h => hr ⟨hr1, h⟩
        clear hr h95
        rcases h95b : ((x.toNat : Int) == 95) with _ | _
        ·
         go_wp2_with fail
         (refine (HLOW.out _).mono ?_); rintro ev w1 ⟨rfl, rfl⟩
         go_wp2_with fail
         (refine (HLOW.out _).mono ?_); rintro ev w1 ⟨rfl, rfl⟩
         go_wp2_with fail
         go_ret2
         exact ⟨0, _, rfl, by decide, .inr rfl, fun y hy => absurd hy (HBAD.out y), HB.out⟩
        ·
         go_wp2_with fail
         (refine (HLOW.out _).mono ?_); rintro ev w1 ⟨rfl, rfl⟩
         go_wp2_with fail
         (refine (HLOW.out _).mono ?_); rintro ev w1 ⟨rfl, rfl⟩
         go_wp2_with fail
         go_ret2
         exact ⟨0, _, rfl, by decide, .inr rfl, fun y hy => absurd hy (HBAD.out y), HB.out⟩
       ·
        have e0 : ((x.toNat : Int) == 95) = false := by
         simp only [beq_eq_false_iff_ne, ne_eq]
         intro e
         have := h95 (by omega)
         omega
        clear hr h95
        go_wp2_with fail
        (refine (HLOW.out _).mono ?_); rintro ev w1 ⟨rfl, rfl⟩
        go_wp2_with fail
        go_ret2
        exact ⟨0, _, rfl, by decide, .inr rfl, fun y hy => absurd hy (HBAD.out y), HB.out⟩
    ·
     have hk2 : k < 2 := by omega
     have hno : ¬ (48 <= x.toNat /\ x.toNat <= 57) := by omega
     obtain ⟨L, hL⟩ : ∃ L : Int, bits BinOp.or IntKind.u8 (x.toNat : Int) 32 = L := ⟨_, rfl⟩
     have HA0 := Lib.hid (show ∀ a, a < 16 -> x = hexD a -> L = 87 + (a : Int) /\ 10 <= a from fun a ha e => by
      have hh := hexD_nat ha
      rw [<- e] at hh
      split at hh
      · omega
      ·
       have h3 := or32 ha (by omega)
       rw [<- hh, hL] at h3
       omega)
     have hlow2 : ∀ W, Calls Tryz.prog 179 #[.int .u8 x.toNat] W fun e w' => e = .returned (.int .u8 L) /\ w' = W := fun W => by rw [<- hL]; exact hlow W
     have HLOW := Lib.hid hlow2
     have h95 : x.toNat = 95 -> L = 127 := fun e => by rw [<- hL, e]; decide
     clear hlow hlow2 hL
     by_cases hr : 97 <= L /\ L <= 122
     ·
      obtain ⟨d, hd⟩ : ∃ d : Nat, L = 87 + (d : Int) := ⟨(L - 87).toNat, by omega⟩
      have e0 : ((x.toNat : Int) == 95) = false := by
       simp only [beq_eq_false_iff_ne, ne_eq]
       intro e
       have := h95 (by omega)
       omega
      have e1 : IntKind.u8.wrap (L - 97) = L - 97 := by rw [IntKind.wrap_u8]; omega
      have e4 : IntKind.u8.wrap (L - 97 + 10) = (d : Int) := by rw [IntKind.wrap_u8]; omega
      have HA := Lib.hid (show ∀ a, a < 16 -> x = hexD a -> L = 87 + (a : Int) /\ d = a from fun a ha e => by have := HA0.out a ha e; omega)
      by_cases hd16 : d < 16
      ·
       obtain ⟨r1, r2⟩ := hr
       obtain ⟨M, hM⟩ : ∃ M, N * 16 = M := ⟨_, rfl⟩
       obtain ⟨P, hP⟩ : ∃ P, M + d = P := ⟨_, rfl⟩
       have e2 : IntKind.u64.wrap ((N : Int) * 16) = (M : Int) := by rw [IntKind.wrap_u64]; omega
       have e3 : IntKind.u64.wrap ((M : Int) + (d : Int)) = (P : Int) := by rw [IntKind.wrap_u64]; omega
       have f1 : d < 16 := by omega
       have f2 : decide ((1152921504606846976 : Int) <= (N : Int)) = false := decide_eq_false (by omega)
       have f3 : M <= P := by omega
       have f4 : P <= 255 := by omega
       have HFIN := Lib.hid (show P < 16 ^ (k + 1) /\ Two s (k + 1) P from ⟨by rw [Nat.pow_succ]; omega, two_step (d := d) HT.out HX.out (fun a ha e => (HA.out a ha e).2) (by omega)⟩)
       clear hM hP hN hN2 hd h95
       go_wp2_with fail
       (refine (HLOW.out _).mono ?_); rintro ev w1 ⟨rfl, rfl⟩
       go_wp2_with fail
       (refine (HLOW.out _).mono ?_); rintro ev w1 ⟨rfl, rfl⟩
       go_wp2_with fail
       (refine (HLOW.out _).mono ?_); rintro ev w1 ⟨rfl, rfl⟩
       go_wp2_with fail
       skip
       go_wp2_with fail
       go_roundg (s.length - (k + 1))
       case measure => omega
       case rel => exact ⟨k + 1, P, rfl, by omega, rfl, by go_num, rfl, HFIN.out.1, Lib.hid HFIN.out.2, rfl⟩
      ·
       obtain ⟨r1, r2⟩ := hr
       have HBAD := Lib.hid (show ∀ y : UInt8, s ≠ [hexD (y.toNat / 16), hexD (y.toNat % 16)] from fun y hy => by
        obtain ⟨a, ha, e⟩ := two_at HX.out hk2 hy
        have := (HA.out a ha e).2
        omega)
       clear hd hN hN2 h95
       go_wp2_with fail
       (refine (HLOW.out _).mono ?_); rintro ev w1 ⟨rfl, rfl⟩
       go_wp2_with fail
       (refine (HLOW.out _).mono ?_); rintro ev w1 ⟨rfl, rfl⟩
       go_wp2_with fail
       (refine (HLOW.out _).mono ?_); rintro ev w1 ⟨rfl, rfl⟩
       go_wp2_with fail
       go_ret2
       exact ⟨0, _, rfl, by decide, .inr rfl, fun y hy => absurd hy (HBAD.out y), HB.out⟩
     ·
      have HBAD := Lib.hid (show ∀ y : UInt8, s ≠ [hexD (y.toNat / 16), hexD (y.toNat % 16)] from fun y hy => by
       obtain ⟨a, ha, e⟩ := two_at HX.out hk2 hy
       have := HA0.out a ha e
       omega)
      clear hN hN2
      by_cases hr1 : 97 <= L
      ·
       have hr2 : ¬ L <= 122 := fun h => hr ⟨hr1, h⟩
       clear hr h95
       rcases h95b : ((x.toNat : Int) == 95) with _ | _
       ·
        go_wp2_with fail
        (refine (HLOW.out _).mono ?_); rintro ev w1 ⟨rfl, rfl⟩
        go_wp2_with fail
        (refine (HLOW.out _).mono ?_); rintro ev w1 ⟨rfl, rfl⟩
        go_wp2_with fail
        go_ret2
        exact ⟨0, _, rfl, by decide, .inr rfl, fun y hy => absurd hy (HBAD.out y), HB.out⟩
       ·
        go_wp2_with fail
        (refine (HLOW.out _).mono ?_); rintro ev w1 ⟨rfl, rfl⟩
        go_wp2_with fail
        (refine (HLOW.out _).mono ?_); rintro ev w1 ⟨rfl, rfl⟩
        go_wp2_with fail
        go_ret2
        exact ⟨0, _, rfl, by decide, .inr rfl, fun y hy => absurd hy (HBAD.out y), HB.out⟩
      ·
       have e0 : ((x.toNat : Int) == 95) = false := by
        simp only [beq_eq_false_iff_ne, ne_eq]
        intro e
        have := h95 (by omega)
        omega
       clear hr h95
       go_wp2_with fail
       (refine (HLOW.out _).mono ?_); rintro ev w1 ⟨rfl, rfl⟩
       go_wp2_with fail
       go_ret2
       exact ⟨0, _, rfl, by decide, .inr rfl, fun y hy => absurd hy (HBAD.out y), HB.out⟩
   ·
    obtain rfl : k = s.length := by omega
    have hN256 : N < 256 := by
     have h3 : s.length = 1 \/ s.length = 2 := by
      have : s.length ≠ 0 := by simpa using h0
      omega
     rcases h3 with h3 | h3 <;> (rw [h3] at hN; omega)
    have HF := Lib.hid hN256
    clear hN256 hN
    go_wp2_with fail
    go_ret2
    exact ⟨N, .nilIface, rfl, HF.out, .inl rfl, fun y hy => ⟨rfl, (HT.out y hy).2.2 (by rw [hy]; rfl)⟩, HB.out⟩
/-- strconv.ParseUint(s, 16, 8), of at most two letters: the error is nil or not. -/
theorem uint_c (s : Bs) (w : World) (hl : s.length <= 2) (hg : Gl w) :
  Calls Tryz.prog 135 #[strV s, .int .i64 16, .int .i64 8] w fun e w' => ∃ (n : Nat) (er : Value), e = .returned (.tuple #[.int .u64 n, er]) /\ n < 256 /\
   (er = .nilIface \/ ∃ te p, er = .iface te p) /\ (∀ y : UInt8, s = [hexD (y.toNat / 16), hexD (y.toNat % 16)] -> er = .nilIface /\ n = y.toNat) /\ Below w.heap.size w w' := by
 have h := uint_in s w hl
 have HE := Lib.hid (fun W (hb : Below w.heap.size w W) => (hg.on hb).es)
 have hsz := str_size s
 clear hg
 unfold UintQ at h
 unfold strV at h ⊢
 go_enter Tryz.func135, Tryz.ntmps135
 go_wp2_with fail
 (refine h.mono ?_); rintro ev w1 ⟨n, er, rfl, hn, her, hy, hb1⟩
 have HY := Lib.hid (And.intro hn (And.intro hy hb1))
 clear h hn hy
 rcases her with rfl | rfl
 ·
  clear hb1
  go_wp2_with fail
  go_ret2
  exact ⟨n, .nilIface, rfl, HY.out.1, .inl rfl, fun y hy => ⟨rfl, (HY.out.2.1 y hy).2⟩, HY.out.2.2⟩
 ·
  obtain ⟨ev, h1, h2⟩ := HE.out w1 hb1
  have ht := Tryz.strconv_toError_syntax ⟨#[80, 97, 114, 115, 101, 85, 105, 110, 116]⟩ ⟨s.toArray⟩ 16 8 ev w1 (by omega) h1 h2
  have HT := Lib.hid ht
  clear ht h1 h2 hb1
  go_wp2_with fail
  (refine HT.out.mono ?_); rintro e2 w2 ⟨M, rfl, _, _, hb2⟩
  go_wp2_with fail
  go_ret2
  exact ⟨n, .iface _ _, rfl, HY.out.1, .inr ⟨_, _, rfl⟩, fun y hy => absurd (HY.out.2.1 y hy).1 (by simp), bl HY.out.2.2 hb2⟩
end Go.Proofs.YtobplngonkdbpaaGreatDoor.D
