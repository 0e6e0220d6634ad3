/- Contract: coerce.read. -/
import Derived.Test.YtjklecncdinabaaGreatDoorCoK
import Derived.StillTailTactics
import Derived.Deep.CutBlock
import Derived.Deep.CutRange
import Derived.Deep.DeepCutAuto
namespace Go.Proofs.YtjklecncdinabaaGreatDoor.C
open Go.RowKit Go.Proofs.YtjklecncdinabaaGreatDoor.B
set_option linter.unusedVariables false
set_option linter.unusedSimpArgs false

/-- What read answers: B: where the list's own blocks end. -/
def ReadQ (B : Nat) (R : Option (Co × List Nd)) (w : World) (e : Ending) (w' : World) : Prop := Below w.heap.size w w' ∧ match R with
  | none => e = .returned (.tuple #[.nilIface, .slice none 0 0])
  | some (t, r) => ∃ v A c, e = .returned (.tuple #[v, .slice A r.length c]) ∧ r.length ≤ c ∧ c ≤ maxLen ∧ VCo w' (w.heap.size ≤ ·) t v ∧ Sl w' B 7 A r.length (nds r)

set_option maxRecDepth 100000 in
theorem read_nil (A : Option Addr) (c q : Nat) (w : World) : Calls Tryz.prog 58 #[.slice A 0 c, .int .i64 (q : Nat)] w fun e w' => e = .returned (.tuple #[.nilIface, .slice none 0 0]) ∧ w = w' := by
  go_enter Tryz.func58, Tryz.ntmps58
  go_wp2_with fail
  go_ret2
  exact ⟨rfl, rfl⟩
set_option maxRecDepth 100000 in
theorem read_deep (A : Option Addr) (n c : Nat) (w : World) (hn : 0 < n) : Calls Tryz.prog 58 #[.slice A n c, .int .i64 65] w fun e w' => e = .returned (.tuple #[.nilIface, .slice none 0 0]) ∧ w = w' := by
  go_enter Tryz.func58, Tryz.ntmps58
  go_wp2_with fail
  go_ret2
  exact ⟨rfl, rfl⟩

set_option maxRecDepth 100000 in
set_option maxHeartbeats 4000000 in
theorem read_any (d : Nat) : ∀ (l : List Nd) (A : Option Addr) (c q B : Nat) (w : World), q + d = 65 → l.length ≤ c → c ≤ maxLen → B ≤ w.heap.size → Sl w B 7 A l.length (nds l) →
    Calls Tryz.prog 58 #[.slice A l.length c, .int .i64 (q : Nat)] w fun e w' => ReadQ B (readC d l) w e w' := by
  induction d with
  | zero =>
    intro l A c q B w hq hl hc hB hA
    obtain rfl : q = 65 := hq
    cases l with
    | nil => exact (read_nil A c 65 w).mono fun e w' ⟨h1, h2⟩ => ⟨by subst h2; exact b0, h1⟩
    | cons n r => exact (read_deep A _ c w (by simp)).mono fun e w' ⟨h1, h2⟩ => ⟨by subst h2; exact b0, h1⟩
  | succ d ih =>
    intro l A c q B w hq hl hc hB hA
    cases l with
    | nil => exact (read_nil A c q w).mono fun e w' ⟨h1, h2⟩ => ⟨by subst h2; exact b0, h1⟩
    | cons n r =>
      obtain ⟨R, hR⟩ : ∃ R, readC (d + 1) (n :: r) = R := ⟨_, rfl⟩
      rw [hR]
      obtain ⟨b, o, rfl, hb, ⟨c0, c1, c2, c3, c4, c5, c6⟩, hrest⟩ := head_B hA
      have hb' : b < w.heap.size := by omega
      have HR := Lib.hid hrest
      have IH := Lib.hid ih
      have HBW := Lib.hid hB
      have HQ := Lib.hid hq
      clear hA hrest ih hB hb
      have hq1 : q ≤ 64 := by omega
      clear hq
      obtain ⟨K, hK⟩ : ∃ K, r.length = K := ⟨_, rfl⟩
      have hl' : K + 1 ≤ c := by rw [← hK]; simpa using hl
      have hlen : (n :: r).length = K + 1 := by rw [← hK]; rfl
      rw [hlen]
      rw [hK] at HR
      have HK := Lib.hid hK
      clear hlen hK hl
      unfold maxLen at hc
      obtain ⟨op, pj, ij, hd, lb, fr, tq⟩ := n
      simp only at c0 c1 c2 c3 c4 c5 c6
      unfold readC at hR
      simp only at hR
      have hK0 : ((K : Int) + 1 == 0) = false := by simp; omega
      have hq0 : decide ((64 : Int) < (q : Int)) = false := by simp; omega
      have HRR := Lib.hid hR
      clear hR
      go_enter Tryz.func58, Tryz.ntmps58
      go_upto_region 3 with fail
      go_cut [6, 7] (fun a z wx => a = .pointer (some ⟨w.heap.size, 0, none⟩) ∧ (∃ A', z = .slice A' K K ∧ Sl wx B 7 A' K (nds r)) ∧ Below w.heap.size w wx ∧ Blk wx w.heap.size 28 #[.int .i8 op, .int .i64 pj, .bool ij, .int .u8 hd, .int .i64 lb, .int .u8 fr, .int .u8 tq])
      case first =>
        rcases Nat.eq_zero_or_pos K with hk0 | hk0
        · have hr0 : r = [] := List.eq_nil_of_length_eq_zero (by rw [HK.out]; exact hk0)
          have HN := Lib.hid (show ∀ W A, Sl W B 7 A 0 (nds r) by intro W A; rw [hr0]; exact Sl.nil _ _ _ _)
          clear hr0
          subst hk0
          go_region
          all_goals
            go_wp2_with fail
            go_meet
            case rel => exact ⟨rfl, ⟨_, rfl, HN.out _ _⟩, (bdr (bal b0 _) 1), (Blk.new _ _ _).drew⟩
        · go_region
          all_goals
            go_wp2_with fail
            go_meet
            case rel => exact ⟨rfl, ⟨_, rfl, Sl.below HR.out ((bdr (bal b0 _) 1).mono HBW.out)⟩, (bdr (bal b0 _) 1), (Blk.new _ _ _).drew⟩
      case rest =>
        obtain ⟨rfl, ⟨A', rfl, hLN⟩, hbw, hblk⟩ := hcut
        have n0 := hblk.cell 0
        have n1 := hblk.cell 1
        have n2 := hblk.cell 2
        have n3 := hblk.cell 3
        have n4 := hblk.cell 4
        have n5 := hblk.cell 5
        have n6 := hblk.cell 6
        simp only [List.getElem?_toArray, List.getElem?_cons_zero, List.getElem?_cons_succ] at n0 n1 n2 n3 n4 n5 n6
        have HB := Lib.hid hbw
        have HL := Lib.hid hLN
        clear hbw hLN hblk c0 c1 c2 c3 c4 c5 c6 hb' hK0 hq0
        have hops := fun h W => ops_any h W
        have hlab := fun h W => label_any h W
        by_cases ho : op = 1
        · subst ho
          go_wp2_with fail
          all_goals
            go_ret2
            have hR := HRR.out
            simp [anyB, *] at hR
            subst hR
            first
              | exact ⟨HB.out, rfl⟩
              | exact ⟨HB.out, _, _, _, by rw [HK.out]; rfl, by rw [HK.out]; exact Nat.le_refl _, by unfold maxLen; omega, rfl, by rw [HK.out]; exact HL.out⟩
        · have ho' : (op == 1) = false := by simpa using ho
          have hR := HRR.out
          rw [if_neg ho] at hR
          clear HRR ho
          by_cases h0 : opsO hd = 0
          · rw [if_pos (.inl h0)] at hR
            subst hR
            have ho0 := hops hd
            rw [h0] at ho0
            clear hops
            go_wp2_with fail
            (refine (ho0 _).mono ?_); rintro ev w1 ⟨rfl, rfl⟩
            go_wp2_with fail
            go_ret2
            exact ⟨HB.out, rfl⟩
          · have h0' : (opsO hd == 0) = false := by simpa using h0
            by_cases hp : prjB pj = false
            · rw [if_pos (.inr hp)] at hR
              subst hR
              have hp0 : (pj == 0) = false := by unfold prjB at hp; simp at hp; simpa using hp.1
              have hp1 : (pj != 0) = true := by simpa using hp0
              have hp2 : lblB pj = false := by unfold prjB at hp; simp at hp; exact hp.2
              have hl0 := hlab pj
              rw [hp2] at hl0
              clear hlab hp hp2
              go_wp2_with fail
              (refine (hops _ _).mono ?_); rintro ev w1 ⟨rfl, rfl⟩
              go_wp2_with fail
              (refine (hl0 _).mono ?_); rintro ev w1 ⟨rfl, rfl⟩
              go_wp2_with fail
              go_ret2
              exact ⟨HB.out, rfl⟩
            · have hp' : prjB pj = true := tru hp
              rw [if_neg (by simp [h0, hp'])] at hR
              have HRR := Lib.hid hR
              have HP := Lib.hid hp'
              clear hR h0 hp hp'
              go_wp2_with fail
              (refine (hops _ _).mono ?_); rintro ev w1 ⟨rfl, rfl⟩
              obtain ⟨oN, hoN⟩ : ∃ x, opsN hd = x := ⟨_, rfl⟩
              obtain ⟨oO, hoO⟩ : ∃ x, opsO hd = x := ⟨_, rfl⟩
              rw [hoO] at h0'
              rw [hoO, hoN]
              have HoN := Lib.hid hoN
              have HoO := Lib.hid hoO
              clear hoN hoO
              go_upto_region 9 with fail
              go_cut [60] from 48 to 60 (fun a wx => a = .bool false ∧ wx = wc)
              case first =>
                by_cases hz : pj = 0
                · subst hz
                  go_wp2_with fail
                  go_meet
                  case rel => exact ⟨rfl, rfl⟩
                · have hp1 : (pj != 0) = true := by simpa using hz
                  have hp2 : lblB pj = true := by have hp' := HP.out; unfold prjB at hp'; simp [hz] at hp'; exact hp'
                  have hl0 := hlab pj
                  rw [hp2] at hl0
                  clear hp2 hlab hz
                  go_wp2_with fail
                  (refine (hl0 _).mono ?_); rintro ev w2 ⟨rfl, rfl⟩
                  go_wp2_with fail
                  go_meet
                  case rel => exact ⟨rfl, rfl⟩
              case rest =>
                obtain ⟨rfl, rfl⟩ := hcut
                by_cases h7 : op = 7
                · subst h7
                  have hR := HRR.out
                  rw [if_pos rfl] at hR
                  clear HRR ho' h0'
                  obtain ⟨fB, hfB⟩ : ∃ x, failB ⟨7, pj, ij, hd, lb, fr, tq⟩ = x := ⟨_, rfl⟩
                  rw [hfB] at hR
                  have HfB := Lib.hid hfB
                  clear hfB
                  have HRR := Lib.hid hR
                  clear hR
                  obtain ⟨oT, hoT⟩ : ∃ x, opsO tq = x := ⟨_, rfl⟩
                  have hop2 := hops tq
                  rw [hoT] at hop2
                  have HoT := Lib.hid hoT
                  clear hoT hops
                  go_wp2_with fail
                  (refine (hop2 _).mono ?_); rintro ev w1 ⟨rfl, rfl⟩
                  clear hop2
                  go_upto_region 13 with fail
                  go_cut [95] from 64 to 95 (fun a wx => a = .bool (!fB) ∧ wx = wc)
                  case first =>
                    by_cases e1 : oT = 0
                    · have hf : fB = false := by rw [← HfB.out]; simp [failB, HoT.out, e1]
                      subst e1 hf
                      go_wp2_with fail
                      go_meet
                      case rel => exact ⟨rfl, rfl⟩
                    · have e1' : (oT == 0) = false := by simpa using e1
                      by_cases e2 : ij = true
                      · have hf : fB = false := by rw [← HfB.out]; simp [failB, e2]
                        subst e2 hf
                        go_wp2_with fail
                        go_meet
                        case rel => exact ⟨rfl, rfl⟩
                      · have e2' : ij = false := by simpa using e2
                        subst e2'
                        have hl0 := hlab lb
                        by_cases e3 : lblB lb = false
                        · have hf : fB = false := by rw [← HfB.out]; simp [failB, e3]
                          rw [e3] at hl0
                          subst hf
                          clear hlab
                          go_wp2_with fail
                          (refine (hl0 _).mono ?_); rintro ev w2 ⟨rfl, rfl⟩
                          go_wp2_with fail
                          go_meet
                          case rel => exact ⟨rfl, rfl⟩
                        · have e3' := tru e3
                          rw [e3'] at hl0
                          clear hlab
                          by_cases e4 : fr = hd
                          · subst e4
                            by_cases e5 : tq = fr
                            · have hf : fB = false := by rw [← HfB.out]; simp [failB, e5]
                              subst e5 hf
                              go_wp2_with fail
                              (refine (hl0 _).mono ?_); rintro ev w2 ⟨rfl, rfl⟩
                              go_wp2_with fail
                              go_meet
                              case rel => exact ⟨rfl, rfl⟩
                            · have hf : fB = true := by rw [← HfB.out]; simp [failB, HoT.out, e1, e3', e5]
                              have e5' : (tq == fr) = false := by simpa using e5
                              subst hf
                              go_wp2_with fail
                              (refine (hl0 _).mono ?_); rintro ev w2 ⟨rfl, rfl⟩
                              go_wp2_with fail
                              go_meet
                              case rel => exact ⟨rfl, rfl⟩
                          · have hf : fB = false := by rw [← HfB.out]; simp [failB, e4]
                            have e4' : (fr != hd) = true := by simpa using e4
                            have e4'' : (fr == hd) = false := by simpa using e4
                            subst hf
                            go_wp2_with fail
                            (refine (hl0 _).mono ?_); rintro ev w2 ⟨rfl, rfl⟩
                            go_wp2_with fail
                            go_meet
                            case rel => exact ⟨rfl, rfl⟩
                  case rest =>
                    obtain ⟨rfl, rfl⟩ := hcut
                    have hR := HRR.out
                    cases fB with
                    | false =>
                      simp at hR
                      subst hR
                      go_wp2_with fail
                      go_ret2
                      exact ⟨HB.out, rfl⟩
                    | true =>
                      simp at hR
                      subst hR
                      go_wp2_with fail
                      go_ret2
                      exact ⟨HB.out, _, _, _, by rw [HK.out]; rfl, by rw [HK.out]; exact Nat.le_refl _, by unfold maxLen; omega, rfl, by rw [HK.out]; exact HL.out⟩
                · have hR := HRR.out
                  rw [if_neg h7] at hR
                  have h7' : (op == 7) = false := by simpa using h7
                  clear HRR h0' hops hlab h7
                  obtain ⟨pB, hpB⟩ : ∃ x, partB ⟨op, pj, ij, hd, lb, fr, tq⟩ = x := ⟨_, rfl⟩
                  rw [hpB] at hR
                  have HpB := Lib.hid hpB
                  clear hpB
                  have HRR := Lib.hid hR
                  clear hR
                  go_upto_region 16 with fail
                  go_cut [125] from 107 to 125 (fun a wx => a = .bool (!pB) ∧ wx = wc)
                  case first =>
                    by_cases e1 : op = oO
                    · by_cases e2 : lb = 0
                      · by_cases e3 : fr = 0
                        · by_cases e4 : tq = 0
                          · have hf : pB = true := by rw [← HpB.out]; simp [partB, HoO.out, e1, e2, e3, e4]
                            subst e1 e2 e3 e4 hf
                            go_wp2_with fail
                            go_meet
                            case rel => exact ⟨rfl, rfl⟩
                          · have hf : pB = false := by rw [← HpB.out]; simp [partB, e4]
                            have e4' : (tq == 0) = false := by simpa using e4
                            have e4'' : (tq != 0) = true := by simpa using e4
                            subst e1 e2 e3 hf
                            go_wp2_with fail
                            go_meet
                            case rel => exact ⟨rfl, rfl⟩
                        · have hf : pB = false := by rw [← HpB.out]; simp [partB, e3]
                          have e3' : (fr == 0) = false := by simpa using e3
                          have e3'' : (fr != 0) = true := by simpa using e3
                          subst e1 e2 hf
                          go_wp2_with fail
                          go_meet
                          case rel => exact ⟨rfl, rfl⟩
                      · have hf : pB = false := by rw [← HpB.out]; simp [partB, e2]
                        have e2' : (lb == 0) = false := by simpa using e2
                        have e2'' : (lb != 0) = true := by simpa using e2
                        subst e1 hf
                        go_wp2_with fail
                        go_meet
                        case rel => exact ⟨rfl, rfl⟩
                    · have hf : pB = false := by rw [← HpB.out]; simp [partB, HoO.out, e1]
                      have e1' : (op == oO) = false := by simpa using e1
                      have e1'' : (op != oO) = true := by simpa using e1
                      subst hf
                      go_wp2_with fail
                      go_meet
                      case rel => exact ⟨rfl, rfl⟩
                  case rest =>
                    obtain ⟨rfl, rfl⟩ := hcut
                    have hR := HRR.out
                    cases pB with
                    | false =>
                      simp at hR
                      subst hR
                      go_wp2_with fail
                      go_ret2
                      exact ⟨HB.out, rfl⟩
                    | true =>
                      clear HRR
                      rw [if_neg (by simp)] at hR
                      have hcont0 : contC d hd pj ij (opsN hd) [] r = R := by rw [cont_read]; exact hR
                      rw [HoN.out] at hcont0
                      have HC := Lib.hid hcont0
                      clear hR hcont0
                      go_wp2_with fail
                      obtain ⟨G, hG⟩ : ∃ G, wc.heap.size = G := ⟨_, rfl⟩
                      rw [hG]
                      have HB0 := HB.out
                      have hwG : w.heap.size ≤ G := by rw [← hG]; exact HB0.size
                      have hBw := HBW.out
                      have hloop0 := (⟨0, [], r, A', K, .slice none 0 0, by omega, by omega, rfl, by rw [HK.out], by rw [HK.out]; exact Nat.le_refl _, by unfold maxLen; omega,
                        by rw [HK.out]; exact Sl.below HL.out ((bal b0 _).mono (Nat.le_trans hBw HB0.size)), rfl, rfl, Kids.nil _ _ _, by simpa using HC.out, by rw [← hG]; exact Blk.new _ _ _, bal HB0 _⟩ :
                        ∃ (k : Nat) (ts : List Co) (r' : List Nd) (A2 : Option Addr) (c2 : Nat) (V : Value), k ≤ oN ∧ oN = oN - k ∧ (Value.int .i64 0) = .int .i64 (k : Nat) ∧ (Value.slice A' K K) = .slice A2 r'.length c2 ∧ r'.length ≤ c2 ∧ c2 ≤ maxLen ∧
                        Sl (wc.alloc (Obj.cells #[Value.int IntKind.i64 pj, Value.bool ij, Value.int IntKind.u8 hd, Value.slice none 0 0] 100)) B 7 A2 r'.length (nds r') ∧ ts.length = k ∧ V = V ∧ Kids (wc.alloc (Obj.cells #[Value.int IntKind.i64 pj, Value.bool ij, Value.int IntKind.u8 hd, Value.slice none 0 0] 100)) (fun _ => False) G V ts ∧ contC d hd pj ij (oN - k) ts r' = R ∧
                        Blk (wc.alloc (Obj.cells #[Value.int IntKind.i64 pj, Value.bool ij, Value.int IntKind.u8 hd, Value.slice none 0 0] 100)) G 100 #[.int .i64 pj, .bool ij, .int .u8 hd, V] ∧ Below w.heap.size w (wc.alloc (Obj.cells #[Value.int IntKind.i64 pj, Value.bool ij, Value.int IntKind.u8 hd, Value.slice none 0 0] 100)))
                      have HL0 := Lib.hid hloop0
                      clear hloop0 n0 n1 n2 n3 n4 n5 n6 HL HC hG hl'
                      obtain ⟨i0, hi0, hz0, hz1, hz2⟩ := info_three infoCoi
                      go_loopg [7, 134] oN (fun g z i wr => ∃ (k : Nat) (ts : List Co) (r' : List Nd) (A2 : Option Addr) (c2 : Nat) (V : Value), k ≤ oN ∧ g = oN - k ∧ i = .int .i64 (k : Nat) ∧ z = .slice A2 r'.length c2 ∧ r'.length ≤ c2 ∧ c2 ≤ maxLen ∧
                        Sl wr B 7 A2 r'.length (nds r') ∧ ts.length = k ∧ V = V ∧ Kids wr (fun _ => False) G V ts ∧ contC d hd pj ij (oN - k) ts r' = R ∧
                        Blk wr G 100 #[.int .i64 pj, .bool ij, .int .u8 hd, V] ∧ Below w.heap.size w wr)
                      case atStart => exact HL0.out
                      case round =>
                        obtain ⟨k, ts, r', A2, c2, V, hk, rfl, rfl, rfl, hrc, hcm, hsl, hts, _, hkids, hcont, hblk, hbel⟩ := hrel
                        have HKD := Lib.hid hkids
                        have HCT := Lib.hid hcont
                        have HSL := Lib.hid hsl
                        have HBK := Lib.hid hblk
                        have HBE := Lib.hid hbel
                        have HTS := Lib.hid hts
                        clear hkids hcont hsl hblk hbel hts HL0
                        by_cases hlt : k < oN
                        · have hcall := IH.out r' A2 c2 (q + 1) B wr (by have := HQ.out; omega) hrc hcm (Nat.le_trans HBW.out HBE.out.size) HSL.out
                          have eq1 : (((q + 1 : Nat) : Int)) = (q : Int) + 1 := by omega
                          rw [eq1] at hcall
                          clear eq1
                          obtain ⟨L, hL⟩ : ∃ L, r'.length = L := ⟨_, rfl⟩
                          rw [hL] at hcall ⊢
                          clear hrc hcm
                          go_wp2_with fail
                          (refine hcall.mono ?_); rintro ev w2 ⟨hb2, hq2⟩
                          clear hcall
                          have hct := HCT.out
                          rw [show oN - k = (oN - (k + 1)) + 1 by omega] at hct
                          simp only [contC] at hct
                          rcases hrd : readC d r' with _ | ⟨t, r1⟩
                          · rw [hrd] at hq2 hct
                            simp only at hq2 hct
                            subst hq2 hct
                            go_wp2_with fail
                            go_ret2
                            exact ⟨bl HBE.out hb2, rfl⟩
                          · rw [hrd] at hq2 hct
                            simp only at hq2 hct
                            obtain ⟨v, A3, c3, rfl, hl3, hm3, hv, hsl3⟩ := hq2
                            obtain ⟨D, z, rfl⟩ := hv.face
                            have HV := Lib.hid hv
                            have HS3 := Lib.hid hsl3
                            have HB2 := Lib.hid hb2
                            have HCX := Lib.hid hct
                            have H3 := Lib.hid (And.intro hl3 hm3)
                            clear hv hsl3 hb2 hct hrd hl3 hm3
                            obtain ⟨L1, hL1⟩ : ∃ L1, r1.length = L1 := ⟨_, rfl⟩
                            rw [hL1]
                            have HL1 := Lib.hid hL1
                            clear hL1 hL
                            go_upto_region 26 with fail
                            go_cut [15, 16] from 135 to 177 (fun a b wx => a = .bool t.begins ∧ b = .bool t.ends ∧ Below w2.heap.size w2 wx)
                            case first =>
                              cases t with
                              | any =>
                                have hv := HV.out
                                simp only [VCo] at hv
                                injection hv with e1 e2
                                subst e1 e2
                                have m1 := fun W => mBgA W
                                have m2 := fun W => mEdA W
                                go_wp2_with fail
                                (refine (cBgA _).mono ?_); rintro ev w3 ⟨rfl, hb3⟩
                                go_wp2_with fail
                                (refine (cEdA _).mono ?_); rintro ev w4 ⟨rfl, hb4⟩
                                go_wp2_with fail
                                go_meet
                                case rel => exact ⟨rfl, rfl, bl hb3 hb4⟩
                              | fail p l f q' =>
                                have hv := HV.out
                                simp only [VCo] at hv
                                injection hv with e1 e2
                                subst e1 e2
                                have m1 := fun W => mBgF W p l f q'
                                have m2 := fun W => mEdF W p l f q'
                                go_wp2_with fail
                                (refine (cBgF _ p l f q').mono ?_); rintro ev w3 ⟨rfl, hb3⟩
                                go_wp2_with fail
                                (refine (cEdF _ p l f q').mono ?_); rintro ev w4 ⟨rfl, hb4⟩
                                go_wp2_with fail
                                go_meet
                                case rel => exact ⟨rfl, rfl, bl hb3 hb4⟩
                              | part p j hh ta tb =>
                                have hv := HV.out
                                simp only [VCo] at hv
                                obtain ⟨Ap, cp, va, vb, hv, _⟩ := hv
                                injection hv with e1 e2
                                subst e1 e2
                                have m1 := fun W => mBgP W p j hh Ap (opsN hh) cp
                                have m2 := fun W => mEdP W p j hh Ap (opsN hh) cp
                                go_wp2_with fail
                                (refine (cBgP _ p j hh Ap (opsN hh) cp).mono ?_); rintro ev w3 ⟨rfl, hb3⟩
                                go_wp2_with fail
                                (refine (cEdP _ p j hh Ap (opsN hh) cp).mono ?_); rintro ev w4 ⟨rfl, hb4⟩
                                go_wp2_with fail
                                go_meet
                                case rel => exact ⟨rfl, rfl, bl hb3 hb4⟩
                            case rest =>
                              obtain ⟨rfl, rfl, hb3⟩ := hcut
                              have HB3 := Lib.hid hb3
                              clear hb3
                              obtain ⟨fb, hfb⟩ : ∃ x, t.begins = x := ⟨_, rfl⟩
                              obtain ⟨lb', hlb⟩ : ∃ x, t.ends = x := ⟨_, rfl⟩
                              obtain ⟨tb, htb⟩ : ∃ x, turnd hd k = x := ⟨_, rfl⟩
                              obtain ⟨kB, hkB⟩ : ∃ x, kidB pj ij (turnd hd ts.length) t = x := ⟨_, rfl⟩
                              rw [hfb, hlb]
                              have hturn := fun W => turned_any hd k W
                              rw [htb] at hturn
                              have hkb2 : kB = ((pj == 0 || (if tb then lb' else fb)) && (!ij || (if tb then fb else lb'))) := by
                                rw [← hkB, HTS.out, htb]; unfold kidB; rw [hfb, hlb]
                              have HKB := Lib.hid hkB
                              clear hkB hfb hlb htb
                              have hbb : Below wr.heap.size wr wc := bl HB2.out HB3.out
                              have hblk := HBK.out.below hbb HBK.out.lt
                              have p0 := hblk.cell 0
                              have p1 := hblk.cell 1
                              have p2 := hblk.cell 2
                              have p3 := hblk.cell 3
                              have HBK3 := Lib.hid hblk
                              have HBB := Lib.hid hbb
                              clear hbb hblk
                              simp only [List.getElem?_toArray, List.getElem?_cons_zero, List.getElem?_cons_succ] at p0 p1 p2 p3
                              have HK2 := Lib.hid hkb2
                              clear hkb2
                              have HTN := Lib.hid hturn
                              clear hturn
                              cases tb
                              all_goals
                                go_wp2_with fail
                                (refine (HTN.out _).mono ?_); rintro ev w5 ⟨rfl, rfl⟩
                                go_upto_region 29 with fail
                                go_cut [170] from 135 to 177 (fun a wx => a = .bool (!kB) ∧ wx = wc)
                                case first =>
                                  have hk2 := HK2.out
                                  by_cases hz : pj = 0
                                  · subst hz
                                    cases ij <;> cases fb <;> cases lb' <;> (simp at hk2; subst hk2; go_wp2_with fail; go_meet; case rel => exact ⟨rfl, rfl⟩)
                                  · have hz1 : (pj != 0) = true := by simpa using hz
                                    have hz2 : (pj == 0) = false := by simpa using hz
                                    rw [hz2] at hk2
                                    clear hz hz2
                                    cases ij <;> cases fb <;> cases lb' <;> (simp at hk2; subst hk2; go_wp2_with fail; go_meet; case rel => exact ⟨rfl, rfl⟩)
                                case rest =>
                                  obtain ⟨rfl, rfl⟩ := hcut
                                  have hct := HCX.out
                                  rw [HKB.out] at hct
                                  cases kB with
                                  | false =>
                                    simp at hct
                                    subst hct
                                    go_wp2_with fail
                                    go_ret2
                                    exact ⟨bl HBE.out HBB.out, rfl⟩
                                  | true =>
                                    rw [if_neg (by simp)] at hct
                                    have HCX2 := Lib.hid hct
                                    clear hct HCX
                                    obtain ⟨AV, cV, rfl, hV1, hV2⟩ := HKD.out.shape
                                    have hkd := HKD.out
                                    obtain ⟨vs, C, hown, hC, hvs⟩ := hkd
                                    have hown3 := own_below hown HBB.out
                                    have hgw : G < wr.heap.size := HBK.out.lt
                                    have hgw3 : G < wc.heap.size := HBK3.out.lt
                                    have hlst : ∀ x, (Value.slice AV ts.length cV).ownBlock = some x → G + 1 ≤ x ∧ x < wr.heap.size := fun x hx => hown.lt x hx
                                    have hpre : ∀ W4, (wc.alloc (.cells #[.iface D z] 69)).grownBy W4 (Value.slice AV ts.length cV).ownBlock → Blk W4 G 100 #[.int .i64 pj, .bool ij, .int .u8 hd, .slice AV ts.length cV] := fun W4 h4 =>
                                      (HBK3.out.alloc _).grown h4 (fun e => by have := hlst G e.symm; omega)
                                    have htk : ts.length = k := HTS.out
                                    have hone : ∀ u ∈ [Value.iface D z], u.oneCell' = true := by
                                      intro u hu
                                      rw [List.mem_singleton.1 hu]; rfl
                                    have hk2 : k + 1 ≤ 2 := by have := HoN.out; have := opsN_le hd; omega
                                    have hown4 := own_below hown3 (bal (b0 (a := wc)) (.cells #[.iface D z] 69))
                                    rw [htk] at hown4 hpre p3
                                    have HO4 := Lib.hid hown4
                                    have HPRE := Lib.hid hpre
                                    have HMISC := Lib.hid (And.intro hlst (And.intro hC (And.intro hvs hown)))
                                    clear hown hown3 hown4 hpre hC hvs hlst htk
                                    go_wp2_with (at_builtin; refine wpList_append_sl _ rfl (.tmp 172) (.tmp 174) _ rfl (G + 1) 69 i0 _ 1 16 Tryz.underlying98 hi0 hz0 hz1 hz2 rfl (by omega) (.slice AV k cV) k vs rfl HO4.out (wc.heap.size + 1) (some ⟨wc.heap.size, 0, none⟩) 1 1 [.iface D z] rfl (Sl.one wc _ _) hone (by simp only [maxLen]; omega) (by omega) (by simp only [World.size_alloc]; omega) ?_; intro V' w6 hown6 hg6 hV6; obtain ⟨A6, c6, rfl, hs61, hs62⟩ := own_shape hown6; have hq0 := (HPRE.out w6 hg6).cell 3; have hq1 := (HPRE.out w6 hg6).frozen 3; simp only [List.getElem?_toArray, List.getElem?_cons_zero, List.getElem?_cons_succ] at hq0)
                                    obtain ⟨hlst, hC, hvs, hown⟩ := HMISC.out
                                    have hbal : Below wr.heap.size wr (wc.alloc (.cells #[.iface D z] 69)) := bal HBB.out _
                                    have htk : ts.length = k := HTS.out
                                    have hg6' : (wc.alloc (.cells #[.iface D z] 69)).grownBy w6 (Value.slice AV ts.length cV).ownBlock := by rw [htk]; exact hg6
                                    have hv6 : (Value.slice A6 (k + 1) c6).ownBlock = (Value.slice AV ts.length cV).ownBlock ∨ (Value.slice A6 (k + 1) c6).ownBlock = some (wc.alloc (.cells #[.iface D z] 69)).heap.size := by rw [htk]; exact hV6
                                    have hKn := (Kids.push hown hC hvs HB2.out HV.out (fun x hx => ⟨.inr (Nat.lt_of_lt_of_le hgw hx), by have : wr.heap.size ≤ x := hx; omega, fun e => by have := hlst x e; have : wr.heap.size ≤ x := hx; omega⟩) (bal HB3.out _) (by rw [htk]; exact hown6) hg6' hv6).set_ 3 (.slice A6 (k + 1) c6)
                                    have hrows : ∀ (B0 : Nat), B0 ≤ G → ∀ x, (Value.slice AV ts.length cV).ownBlock = some x → B0 ≤ x := fun B0 h0 x e => by have := hlst x e; omega
                                    have hBG : B ≤ G := by have := HBW.out; omega
                                    have hb26 : Below B w2 (w6.setCell ⟨G, 3, none⟩ (.slice A6 (k + 1) c6)) := (((HB3.out.mono (Nat.le_trans HBW.out (Nat.le_trans HBE.out.size HB2.out.size))).alloc (by have := HBB.out.size; omega) _).grown hg6' (by simp only [World.size_alloc]; omega) (hrows B hBG)).setCell (by simp only; omega) _
                                    have hb06 : Below w.heap.size w (w6.setCell ⟨G, 3, none⟩ (.slice A6 (k + 1) c6)) := ((bal (bl HBE.out HBB.out) _).grown hg6' (by simp only [World.size_alloc]; omega) (hrows w.heap.size hwG)).setCell (by simp only; omega) _
                                    have hbk6 := (HPRE.out w6 hg6).set_ 3 (.slice A6 (k + 1) c6)
                                    go_roundg (oN - (k + 1))
                                    case measure => omega
                                    case rel => exact ⟨k + 1, ts ++ [t], r1, A3, c3, .slice A6 (k + 1) c6, by omega, rfl, by go_num, by rw [HL1.out], H3.out.1, H3.out.2, Sl.below HS3.out hb26, by simp [htk], trivial, hKn, HCX2.out, hbk6, hb06⟩
                        · obtain rfl : k = oN := by omega
                          have hct := HCT.out
                          rw [Nat.sub_self] at hct
                          simp only [contC] at hct
                          subst hct
                          have p0 := HBK.out.cell 0
                          have p1 := HBK.out.cell 1
                          have p2 := HBK.out.cell 2
                          have p3 := HBK.out.cell 3
                          simp only [List.getElem?_toArray, List.getElem?_cons_zero, List.getElem?_cons_succ] at p0 p1 p2 p3
                          obtain ⟨L, hL⟩ : ∃ L, r'.length = L := ⟨_, rfl⟩
                          rw [hL]
                          have HLL := Lib.hid hL
                          clear hL
                          go_wp2_with fail
                          go_ret2
                          exact ⟨HBE.out, _, _, _, by rw [HLL.out]; rfl, hrc, hcm, HKD.out.part (HTS.out.trans HoN.out.symm) (fun b hb => by rcases hb with h | h; exact h.elim; show w.heap.size ≤ b; omega) pj ij, HSL.out⟩
end Go.Proofs.YtjklecncdinabaaGreatDoor.C
