/- The answer's trees in memory; begins, ends, grounds. -/
import Derived.Test.YtjklecncdinabaaGreatDoorCoT
import Derived.Test.YtjklecncdinabaaGreatDoorCoE
namespace Go.Proofs.YtjklecncdinabaaGreatDoor.C
open Go.RowKit Go.Proofs.YtjklecncdinabaaGreatDoor.B
set_option linter.unusedVariables false
set_option linter.unusedSimpArgs false

theorem infoTr : (Tryz.prog.info? 31).map (fun i => (i.zero, i.size, i.bytes)) = some (some (.agg #[.int .i8 0, .int .i64 0, .bool false, .int .u8 0, .int .i64 0, .int .u8 0, .int .u8 0, .slice none 0 0]), 8, 64) := by kernel_rfl

def Co.nd : Co → Nd
  | .any => ⟨1, 0, false, 0, 0, 0, 0⟩
  | .fail p l f t => ⟨7, p, false, f, l, f, t⟩
  | .part p j h a b => ⟨opsO h, p, j, h, 0, 0, 0⟩
def Co.nk : Co → Nat
  | .part _ _ h _ _ => opsN h
  | _ => 0
def Co.kid : Co → Nat → Co
  | .part _ _ _ a b, j => kidT a b j
  | _, _ => .any
theorem nk_le (t : Co) : t.nk ≤ 2 := by
  cases t with
  | any => simp [Co.nk]
  | fail p l f q => simp [Co.nk]
  | part p j h a b => have := opsN_le h; simp only [Co.nk]; omega
/-- A tree as a value: its node, its kids. -/
def TV (t : Co) (s : Value) : Value := .agg #[.int .i8 t.nd.op, .int .i64 t.nd.pj, .bool t.nd.ij, .int .u8 t.nd.hd, .int .i64 t.nd.lb, .int .u8 t.nd.fr, .int .u8 t.nd.to, s]
def trc (t : Co) (s : Value) : List Value := t.nd.vs ++ [s]
theorem trc_len (t : Co) (s : Value) : (trc t s).length = 8 := rfl
def zeroTree : Value := .agg #[.int .i8 0, .int .i64 0, .bool false, .int .u8 0, .int .i64 0, .int .u8 0, .int .u8 0, .slice none 0 0]

/-- What the field of its kids holds, in blocks of C. -/
def TrS (w : World) (C : Nat → Prop) : Co → Value → Prop
  | .part p j h a b, s => ∃ A c sa sb, s = .slice A (opsN h) c ∧ opsN h ≤ c ∧ c ≤ maxLen ∧ Kd w C A ((trc a sa ++ trc b sb).take (opsN h * 8)) ∧ TrS w C a sa ∧ TrS w C b sb
  | _, s => ∃ A c, s = .slice A 0 c ∧ c ≤ maxLen
theorem TrS.stay {w w' : World} {C C' : Nat → Prop} (hs : Stay C w w') (hC : ∀ b, C b → C' b) : ∀ {t : Co} {s : Value}, TrS w C t s → TrS w' C' t s
  | .any, _, h => h
  | .fail .., _, h => h
  | .part p j hh a b, s, ⟨A, c, sa, sb, h1, h2, h3, h4, h5, h6⟩ => ⟨A, c, sa, sb, h1, h2, h3, h4.stay hs hC, TrS.stay hs hC h5, TrS.stay hs hC h6⟩
theorem TrS.below {w w' : World} {C : Nat → Prop} {t : Co} {s : Value} (h : TrS w C t s) (hb : Below w.heap.size w w') : TrS w' C t s := h.stay (.below hb) fun _ h => h
theorem TrS.mono {w : World} {C C' : Nat → Prop} {t : Co} {s : Value} (h : TrS w C t s) (hC : ∀ b, C b → C' b) : TrS w C' t s := h.stay (fun _ _ _ => rfl) hC
theorem TrS.lt {w : World} {C : Nat → Prop} : ∀ {t : Co} {s : Value}, TrS w C t s → TrS w (fun b => C b ∧ b < w.heap.size) t s
  | .any, _, h => h
  | .fail .., _, h => h
  | .part p j hh a b, s, ⟨A, c, sa, sb, h1, h2, h3, h4, h5, h6⟩ => ⟨A, c, sa, sb, h1, h2, h3, h4.lt, TrS.lt h5, TrS.lt h6⟩
theorem TrS.slice {w : World} {C : Nat → Prop} {t : Co} {s : Value} (h : TrS w C t s) : ∃ A c, s = .slice A t.nk c ∧ t.nk ≤ c ∧ c ≤ maxLen := by
  cases t with
  | any => obtain ⟨A, c, h1, h2⟩ := h; exact ⟨A, c, h1, Nat.zero_le _, h2⟩
  | fail p l f q => obtain ⟨A, c, h1, h2⟩ := h; exact ⟨A, c, h1, Nat.zero_le _, h2⟩
  | part p j hh a b => obtain ⟨A, c, sa, sb, h1, h2, h3, _⟩ := h; exact ⟨A, c, h1, h2, h3⟩

/-- Kid j in memory. -/
theorem TrS.kid {w : World} {C : Nat → Prop} {t : Co} {A : Option Addr} {n c j : Nat} (h : TrS w C t (.slice A n c)) (hj : j < t.nk) :
    ∃ g o s, A = some ⟨g, o, none⟩ ∧ C g ∧ g < w.heap.size ∧ TrS w C (t.kid j) s ∧
      (w.cell? ⟨g, o + j * 8, none⟩ = some (.int .i8 (t.kid j).nd.op) ∧ w.cell? ⟨g, o + j * 8 + 1, none⟩ = some (.int .i64 (t.kid j).nd.pj) ∧ w.cell? ⟨g, o + j * 8 + 2, none⟩ = some (.bool (t.kid j).nd.ij) ∧ w.cell? ⟨g, o + j * 8 + 3, none⟩ = some (.int .u8 (t.kid j).nd.hd) ∧
       w.cell? ⟨g, o + j * 8 + 4, none⟩ = some (.int .i64 (t.kid j).nd.lb) ∧ w.cell? ⟨g, o + j * 8 + 5, none⟩ = some (.int .u8 (t.kid j).nd.fr) ∧ w.cell? ⟨g, o + j * 8 + 6, none⟩ = some (.int .u8 (t.kid j).nd.to) ∧ w.cell? ⟨g, o + j * 8 + 7, none⟩ = some s) := by
  cases t with
  | any => simp [Co.nk] at hj
  | fail p l f q => simp [Co.nk] at hj
  | part p ij hh a b =>
    obtain ⟨A', c', sa, sb, h1, h2, h3, h4, h5, h6⟩ := h
    injection h1 with e1 _ _
    subst e1
    have hn := opsN_le hh
    simp only [Co.nk] at hj
    obtain ⟨n', hn'⟩ : ∃ n', opsN hh = n' := ⟨_, rfl⟩
    rw [hn'] at h4 hj hn
    rcases h4 with h | ⟨g, o, rfl, hg, hc⟩
    · have := congrArg List.length h
      simp [trc_len] at this
      omega
    · rcases j with _ | j
      · have k : ∀ i u, (trc a sa)[i]? = some u → w.cell? ⟨g, o + 0 * 8 + i, none⟩ = some u := fun i u hu => by
          have hi : i < 8 := (List.getElem?_eq_some_iff.1 hu).1
          have := hc i u (by rw [List.getElem?_take_of_lt (by omega), List.getElem?_append_left (by exact hi)]; exact hu)
          rwa [Nat.zero_mul, Nat.add_zero]
        exact ⟨g, o, sa, rfl, hg, lt_cell (k 0 _ rfl), h5, k 0 _ rfl, k 1 _ rfl, k 2 _ rfl, k 3 _ rfl, k 4 _ rfl, k 5 _ rfl, k 6 _ rfl, k 7 _ rfl⟩
      · obtain rfl : j = 0 := by omega
        have k : ∀ i u, (trc b sb)[i]? = some u → w.cell? ⟨g, o + (0 + 1) * 8 + i, none⟩ = some u := fun i u hu => by
          have hi : i < 8 := (List.getElem?_eq_some_iff.1 hu).1
          have := hc (8 + i) u (by rw [List.getElem?_take_of_lt (by omega), List.getElem?_append_right (by show 8 ≤ 8 + i; omega)]; rw [show 8 + i - (trc a sa).length = i by rw [trc_len]; omega]; exact hu)
          rw [show o + (0 + 1) * 8 + i = o + (8 + i) by omega]; exact this
        exact ⟨g, o, sb, rfl, hg, lt_cell (k 0 _ rfl), h6, k 0 _ rfl, k 1 _ rfl, k 2 _ rfl, k 3 _ rfl, k 4 _ rfl, k 5 _ rfl, k 6 _ rfl, k 7 _ rfl⟩

/-- The answer's ends: of a failure, too, false. -/
def Co.endsR : Co → Bool
  | .any => true
  | .fail .. => false
  | .part _ j _ _ _ => j
theorem ends_R (t : Co) : t.ends = (t.endsR || t.nd.op == 7) := by
  cases t with
  | any => rfl
  | fail p l f q => rfl
  | part p j h a b => have := (opsO_ne h).2; simp [Co.ends, Co.endsR, Co.nd, this]

section
variable (w : World)
set_option maxRecDepth 100000 in
theorem beginsR_any (t : Co) (s : Value) : Calls Tryz.prog 21 #[TV t s] w fun e w' => e = .returned (.bool t.begins) ∧ Below w.heap.size w w' := by
  unfold TV
  cases t with
  | any =>
    simp only [Co.nd, Co.begins]
    go_enter Tryz.func21, Tryz.ntmps21
    go_wp2_with fail
    go_ret
    exact ⟨rfl, bal b0 _⟩
  | fail p l f q =>
    simp only [Co.nd, Co.begins]
    go_enter Tryz.func21, Tryz.ntmps21
    go_wp2_with fail
    go_ret
    exact ⟨rfl, bal b0 _⟩
  | part p j h a b =>
    simp only [Co.nd, Co.begins]
    have h1 : (opsO h == 1) = false := by simpa using (opsO_ne h).1
    generalize opsO h = o at *
    go_enter Tryz.func21, Tryz.ntmps21
    go_wp2_with fail
    go_ret
    exact ⟨rfl, bal b0 _⟩
set_option maxRecDepth 100000 in
theorem endsR_any (t : Co) (s : Value) : Calls Tryz.prog 20 #[TV t s] w fun e w' => e = .returned (.bool t.endsR) ∧ Below w.heap.size w w' := by
  unfold TV
  cases t with
  | any =>
    simp only [Co.nd, Co.endsR]
    go_enter Tryz.func20, Tryz.ntmps20
    go_wp2_with fail
    go_ret
    exact ⟨rfl, bal b0 _⟩
  | fail p l f q =>
    simp only [Co.nd, Co.endsR]
    go_enter Tryz.func20, Tryz.ntmps20
    go_wp2_with fail
    go_ret
    exact ⟨rfl, bal b0 _⟩
  | part p j h a b =>
    simp only [Co.nd, Co.endsR]
    have h1 : (opsO h == 1) = false := by simpa using (opsO_ne h).1
    generalize opsO h = o at *
    go_enter Tryz.func20, Tryz.ntmps20
    go_wp2_with fail
    go_ret
    exact ⟨rfl, bal b0 _⟩
end

theorem turned_op (h : Int) (i : Nat) : (opsO h == 3 && i == 0 || opsO h == 6 && i == 1) = turnd h i := by
  have e1 : (opsO h == 3) = (h == 62) := by
    rw [Bool.eq_iff_iff]; simp only [beq_iff_eq]; unfold opsO
    by_cases h1 : h = 105 ∨ h = 98 ∨ h = 116
    · rw [if_pos h1]; omega
    · rw [if_neg h1]; repeat' split
      all_goals omega
  have e2 : (opsO h == 6) = (h == 120) := by
    rw [Bool.eq_iff_iff]; simp only [beq_iff_eq]; unfold opsO
    by_cases h1 : h = 105 ∨ h = 98 ∨ h = 116
    · rw [if_pos h1]; omega
    · rw [if_neg h1]; repeat' split
      all_goals omega
  unfold turnd
  rw [e1, e2]
/-- Do the kids' ends fit? -/
def grK (t : Co) (m : Nat) : Bool := kidB t.nd.pj t.nd.ij (turnd t.nd.hd m) (t.kid m)

set_option maxRecDepth 100000 in
set_option maxHeartbeats 4000000 in
theorem groundsR_any (t : Co) (A : Option Addr) (n c : Nat) (C : Nat → Prop) (w : World) (r : Bool) (hs : TrS w C t (.slice A n c)) (hn : t.nk = n) (hr : r = true ↔ ∀ m, m < n → grK t m = true) (hop : n ≠ 0 → t.nd.op = opsO t.nd.hd) :
    Calls Tryz.prog 57 #[TV t (.slice A n c)] w fun e w' => e = .returned (.bool r) ∧ Below w.heap.size w w' := by
  unfold TV
  have hnb : n ≤ 2 := by rw [← hn]; exact nk_le t
  obtain ⟨op, hop'⟩ : ∃ x, t.nd.op = x := ⟨_, rfl⟩
  obtain ⟨pj, hpj⟩ : ∃ x, t.nd.pj = x := ⟨_, rfl⟩
  obtain ⟨ij, hij⟩ : ∃ x, t.nd.ij = x := ⟨_, rfl⟩
  obtain ⟨hd, hhd⟩ : ∃ x, t.nd.hd = x := ⟨_, rfl⟩
  obtain ⟨lb, hlb⟩ : ∃ x, t.nd.lb = x := ⟨_, rfl⟩
  obtain ⟨fr, hfr⟩ : ∃ x, t.nd.fr = x := ⟨_, rfl⟩
  obtain ⟨tq, htq⟩ : ∃ x, t.nd.to = x := ⟨_, rfl⟩
  have hgk : ∀ m, grK t m = kidB pj ij (turnd hd m) (t.kid m) := fun m => by unfold grK; rw [hpj, hij, hhd]
  have htn : ∀ (m : Nat) (W : World), m < n → Calls Tryz.prog 63 #[.int .i8 op, .int .i64 (m : Nat)] W fun e w' => e = .returned (.bool (turnd hd m)) ∧ W = w' := fun m W hm => by
    have h1 := turnedR_any W op m
    rw [← hop', hop (by omega), turned_op, hhd] at h1
    rw [← hop', hop (by omega), hhd]
    exact h1
  rw [hop', hpj, hij, hhd, hlb, hfr, htq]
  have HS := Lib.hid hs
  have HN := Lib.hid hn
  have HR := Lib.hid hr
  have HGK := Lib.hid hgk
  have HTN := Lib.hid htn
  clear hs hn hr hop hgk htn hop' hpj hij hhd hlb hfr htq
  have hblk := Blk.new w 31 #[.int .i8 op, .int .i64 pj, .bool ij, .int .u8 hd, .int .i64 lb, .int .u8 fr, .int .u8 tq, .slice A n c]
  have HBK := Lib.hid (show ∀ W', Below (w.heap.size + 1) (w.alloc (.cells #[.int .i8 op, .int .i64 pj, .bool ij, .int .u8 hd, .int .i64 lb, .int .u8 fr, .int .u8 tq, .slice A n c] 31)) W' → W'.cell? ⟨w.heap.size, 0, none⟩ = some (.int .i8 op) ∧ W'.cell? ⟨w.heap.size, 1, none⟩ = some (.int .i64 pj) ∧ W'.cell? ⟨w.heap.size, 2, none⟩ = some (.bool ij) ∧ W'.cell? ⟨w.heap.size, 7, none⟩ = some (.slice A n c) from fun W' hb' =>
    ⟨((hblk.below hb' (by omega)).cell 0).trans rfl, ((hblk.below hb' (by omega)).cell 1).trans rfl, ((hblk.below hb' (by omega)).cell 2).trans rfl, ((hblk.below hb' (by omega)).cell 7).trans rfl⟩)
  clear hblk
  go_enter Tryz.func57, Tryz.ntmps57
  go_wp2_with fail
  obtain ⟨W0, hW0⟩ : ∃ W0, w.alloc (.cells #[.int .i8 op, .int .i64 pj, .bool ij, .int .u8 hd, .int .i64 lb, .int .u8 fr, .int .u8 tq, .slice A n c] 31) = W0 := ⟨_, rfl⟩
  rw [hW0] at HBK ⊢
  have hb0 : Below w.heap.size w W0 := by rw [← hW0]; exact bal b0 _
  have hs0 : W0.heap.size = w.heap.size + 1 := by rw [← hW0]; simp only [World.size_alloc]
  have HB0 := Lib.hid (And.intro hb0 hs0)
  clear hW0 hb0 hs0
  go_loopg [3] n (fun g u wr => ∃ m : Nat, m ≤ n ∧ g = n - m ∧ u = .int .i64 m ∧ Below W0.heap.size W0 wr ∧ ∀ x, x < m → grK t x = true)
  case atStart => exact ⟨0, by omega, rfl, rfl, b0, fun x hx => absurd hx (by omega)⟩
  case round =>
    obtain ⟨m, hm, rfl, rfl, hbr, hall⟩ := hrel
    have HBR := Lib.hid hbr
    have HA := Lib.hid hall
    obtain ⟨k0, k1, k2, k7⟩ := HBK.out wr (hbr.mono (by rw [HB0.out.2]; exact Nat.le_refl _))
    clear hbr hall
    by_cases hlt : m < n
    · obtain ⟨g, o, sk, rfl, hCg, hgl, hsk, q0, q1, q2, q3, q4, q5, q6, q7⟩ := HS.out.kid (j := m) (by rw [HN.out]; exact hlt)
      obtain ⟨Ak, ck, rfl, hk1, hk2⟩ := hsk.slice
      obtain ⟨nk, hnk⟩ : ∃ x, (t.kid m).nk = x := ⟨_, rfl⟩
      rw [hnk] at q7 hk1
      have hbw := bl HB0.out.1 HBR.out
      have hbg := fun W => beginsR_any W (t.kid m) (.slice Ak nk ck)
      have hen := fun W => endsR_any W (t.kid m) (.slice Ak nk ck)
      unfold TV at hbg hen
      have hkb := HGK.out m
      unfold kidB at hkb
      rw [ends_R] at hkb
      obtain ⟨ko, hko⟩ : ∃ x, (t.kid m).nd.op = x := ⟨_, rfl⟩
      obtain ⟨kp, hkp⟩ : ∃ x, (t.kid m).nd.pj = x := ⟨_, rfl⟩
      obtain ⟨ki, hki⟩ : ∃ x, (t.kid m).nd.ij = x := ⟨_, rfl⟩
      obtain ⟨kh, hkh⟩ : ∃ x, (t.kid m).nd.hd = x := ⟨_, rfl⟩
      obtain ⟨kl, hkl⟩ : ∃ x, (t.kid m).nd.lb = x := ⟨_, rfl⟩
      obtain ⟨kf, hkf⟩ : ∃ x, (t.kid m).nd.fr = x := ⟨_, rfl⟩
      obtain ⟨kt, hkt⟩ : ∃ x, (t.kid m).nd.to = x := ⟨_, rfl⟩
      obtain ⟨first, hfi⟩ : ∃ x, (t.kid m).begins = x := ⟨_, rfl⟩
      obtain ⟨eR, heR⟩ : ∃ x, (t.kid m).endsR = x := ⟨_, rfl⟩
      obtain ⟨last, hla⟩ : ∃ x, (eR || ko == 7) = x := ⟨_, rfl⟩
      rw [hko, hkp, hki, hkh, hkl, hkf, hkt, hfi] at hbg
      rw [hko, hkp, hki, hkh, hkl, hkf, hkt, heR] at hen
      rw [hko] at q0 hkb
      rw [hkp] at q1
      rw [hki] at q2
      rw [hkh] at q3
      rw [hkl] at q4
      rw [hkf] at q5
      rw [hkt] at q6
      rw [hfi, heR, hla] at hkb
      have kc : ∀ i u, w.cell? ⟨g, i, none⟩ = some u → wr.cell? ⟨g, i, none⟩ = some u := fun i u hu => (hbw.cell (p := ⟨g, i, none⟩) hgl).trans hu
      have p0 := kc _ _ q0
      have p1 := kc _ _ q1
      have p2 := kc _ _ q2
      have p3 := kc _ _ q3
      have p4 := kc _ _ q4
      have p5 := kc _ _ q5
      have p6 := kc _ _ q6
      have p7 := kc _ _ q7
      have HBW := Lib.hid hbw
      have HBG := Lib.hid hbg
      have HEN := Lib.hid hen
      have HLA := Lib.hid hla
      have HKB := Lib.hid hkb
      have HT := Lib.hid (fun W => HTN.out m W hlt)
      clear q0 q1 q2 q3 q4 q5 q6 q7 kc hbw hsk hnk hbg hen hkb hko hkp hki hkh hkl hkf hkt hfi heR hla
      go_upto_region 5 with fail
      obtain ⟨W3, hW3⟩ : ∃ W3, wr.alloc (.cells #[.int .i8 ko, .int .i64 kp, .bool ki, .int .u8 kh, .int .i64 kl, .int .u8 kf, .int .u8 kt, .slice Ak nk ck] 31) = W3 := ⟨_, rfl⟩
      rw [hW3]
      have hb3 : Below wr.heap.size wr W3 := by rw [← hW3]; exact bal b0 _
      have hbk : Blk W3 wr.heap.size 31 #[.int .i8 ko, .int .i64 kp, .bool ki, .int .u8 kh, .int .i64 kl, .int .u8 kf, .int .u8 kt, .slice Ak nk ck] := by rw [← hW3]; exact Blk.new _ _ _
      have HK := Lib.hid (show ∀ W', Below W3.heap.size W3 W' → Below W3.heap.size W3 W' ∧ W'.cell? ⟨wr.heap.size, 0, none⟩ = some (.int .i8 ko) ∧ W'.cell? ⟨wr.heap.size, 1, none⟩ = some (.int .i64 kp) ∧ W'.cell? ⟨wr.heap.size, 2, none⟩ = some (.bool ki) ∧ W'.cell? ⟨wr.heap.size, 3, none⟩ = some (.int .u8 kh) ∧ W'.cell? ⟨wr.heap.size, 4, none⟩ = some (.int .i64 kl) ∧ W'.cell? ⟨wr.heap.size, 5, none⟩ = some (.int .u8 kf) ∧ W'.cell? ⟨wr.heap.size, 6, none⟩ = some (.int .u8 kt) ∧ W'.cell? ⟨wr.heap.size, 7, none⟩ = some (.slice Ak nk ck) from fun W' hb' =>
        ⟨hb', ((hbk.below hb' hbk.lt).cell 0).trans rfl, ((hbk.below hb' hbk.lt).cell 1).trans rfl, ((hbk.below hb' hbk.lt).cell 2).trans rfl, ((hbk.below hb' hbk.lt).cell 3).trans rfl, ((hbk.below hb' hbk.lt).cell 4).trans rfl, ((hbk.below hb' hbk.lt).cell 5).trans rfl, ((hbk.below hb' hbk.lt).cell 6).trans rfl, ((hbk.below hb' hbk.lt).cell 7).trans rfl⟩)
      have HB3 := Lib.hid (bl HBR.out hb3)
      clear hb3 hbk hW3 p0 p1 p2 p3 p4 p5 p6 p7 k0 k1 k2 k7
      go_cut [5, 6] from 19 to 29 (fun a b wx => a = .bool first ∧ b = .bool last ∧ Below W3.heap.size W3 wx)
      case first =>
        cases eR
        · skip
          refine wp_region_held_drew (S := (fun W' => Below W3.heap.size W3 W' ∧ W'.cell? ⟨wr.heap.size, 0, none⟩ = some (.int .i8 ko) ∧ W'.cell? ⟨wr.heap.size, 1, none⟩ = some (.int .i64 kp) ∧ W'.cell? ⟨wr.heap.size, 2, none⟩ = some (.bool ki) ∧ W'.cell? ⟨wr.heap.size, 3, none⟩ = some (.int .u8 kh) ∧ W'.cell? ⟨wr.heap.size, 4, none⟩ = some (.int .i64 kl) ∧ W'.cell? ⟨wr.heap.size, 5, none⟩ = some (.int .u8 kf) ∧ W'.cell? ⟨wr.heap.size, 6, none⟩ = some (.int .u8 kt) ∧ W'.cell? ⟨wr.heap.size, 7, none⟩ = some (.slice Ak nk ck))) (by kernel_rfl) ?ss1 (fun hHeld => ?rr1)
          case ss1 => (try dsimp only); exact HK.out _ (Below.refl _ _).drew
          refine wpAnyH_take (i := 0) (oi := ⟨some 19, _, _, _, _, _⟩) (v := ?vv2) rfl (by kernel_rfl) (by kernel_rfl) (by kernel_rfl) (fun _ _ _ h => h) (Or.inl ⟨by rfl, ?yy2⟩) (by assumption) ?rr2
          case yy2 => (intro wq hSw; (try dsimp only at hSw); go_simp; try with_reducible rfl)
          try simp only [Act.put, List.setIfInBounds_toArray, List.set_cons_zero, List.set_cons_succ]
          refine wpAnyH_take (i := 2) (oi := ⟨some 21, _, _, _, _, _⟩) (v := ?vv3) rfl (by kernel_rfl) (by kernel_rfl) (by kernel_rfl) (fun _ _ _ h => h) (Or.inl ⟨by rfl, ?yy3⟩) (by assumption) ?rr3
          case yy3 => (intro wq hSw; (try dsimp only at hSw); go_simp; try with_reducible rfl)
          try simp only [Act.put, List.setIfInBounds_toArray, List.set_cons_zero, List.set_cons_succ]
          refine wpAnyH_ready (rs := [1]) (by kernel_rfl) (by simp) ?_
          refine AllReadyH.cons (o := ⟨some 20, _, _, _, _, _⟩) rfl (fun K hK => ?_) AllReadyH.nil
          go_simp
          ((refine (HBG.out _).mono ?_); rintro e w4 ⟨rfl, hb4⟩)
          refine hK.out _ _ ?ss4 (fun hHeld2 => ?rr4)
          case ss4 => (try dsimp only); exact HK.out _ (bl hHeld.1 hb4)
          clear hK K
          clear hHeld
          have hHeld := hHeld2
          clear hHeld2
          try simp only [Act.put, List.setIfInBounds_toArray, List.set_cons_zero, List.set_cons_succ]
          refine wpAnyH_ready (rs := [3]) (by kernel_rfl) (by simp) ?_
          refine AllReadyH.cons (o := ⟨some 22, _, _, _, _, _⟩) rfl (fun K hK => ?_) AllReadyH.nil
          go_simp
          ((refine (HEN.out _).mono ?_); rintro e w5 ⟨rfl, hb5⟩)
          refine hK.out _ _ ?ss5 (fun hHeld2 => ?rr5)
          case ss5 => (try dsimp only); exact HK.out _ (bl hHeld.1 hb5)
          clear hK K
          clear hHeld
          have hHeld := hHeld2
          clear hHeld2
          try simp only [Act.put, List.setIfInBounds_toArray, List.set_cons_zero, List.set_cons_succ]
          refine wpAnyH_take (i := 4) (oi := ⟨some 23, _, _, _, _, _⟩) (v := ?vv6) rfl (by kernel_rfl) (by kernel_rfl) (by kernel_rfl) (fun _ _ _ h => h) (Or.inl ⟨by rfl, ?yy6⟩) (by assumption) ?rr6
          case yy6 => (intro wq hSw; (try dsimp only at hSw); go_simp; try with_reducible rfl)
          try simp only [Act.put, List.setIfInBounds_toArray, List.set_cons_zero, List.set_cons_succ]
          refine wpAnyH_take (i := 10) (oi := ⟨some 5, _, _, _, _, _⟩) (v := ?vv7) rfl (by kernel_rfl) (by kernel_rfl) (by kernel_rfl) (fun _ _ _ h => h) (Or.inl ⟨by rfl, ?yy7⟩) (by assumption) ?rr7
          case yy7 => (intro wq hSw; (try dsimp only at hSw); go_simp; try with_reducible rfl)
          try simp only [Act.put, List.setIfInBounds_toArray, List.set_cons_zero, List.set_cons_succ]
          refine wpAnyH_take (i := 5) (oi := ⟨some 24, _, _, _, _, _⟩) (v := ?vv8) rfl (by kernel_rfl) (by kernel_rfl) (by kernel_rfl) (fun _ _ _ h => h) (Or.inl ⟨by rfl, ?yy8⟩) (by assumption) ?rr8
          case yy8 => (intro wq hSw; (try dsimp only at hSw); go_simp; try with_reducible rfl)
          try simp only [Act.put, List.setIfInBounds_toArray, List.set_cons_zero, List.set_cons_succ]
          refine wpAnyH_take (i := 6) (oi := ⟨some 25, _, _, _, _, _⟩) (v := ?vv9) rfl (by kernel_rfl) (by kernel_rfl) (by kernel_rfl) (fun _ _ _ h => h) (Or.inl ⟨by rfl, ?yy9⟩) (by assumption) ?rr9
          case yy9 => (intro wq hSw; (try dsimp only at hSw); go_simp; try with_reducible rfl)
          try simp only [Act.put, List.setIfInBounds_toArray, List.set_cons_zero, List.set_cons_succ]
          refine wpAnyH_take (i := 7) (oi := ⟨some 26, _, _, _, _, _⟩) (v := ?vv10) rfl (by kernel_rfl) (by kernel_rfl) (by kernel_rfl) (fun _ _ _ h => h) (Or.inl ⟨by rfl, ?yy10⟩) (by assumption) ?rr10
          case yy10 => (intro wq hSw; (try dsimp only at hSw); go_simp; try with_reducible rfl)
          try simp only [Act.put, List.setIfInBounds_toArray, List.set_cons_zero, List.set_cons_succ]
          refine wpAnyH_take (i := 8) (oi := ⟨some 27, _, _, _, _, _⟩) (v := ?vv11) rfl (by kernel_rfl) (by kernel_rfl) (by kernel_rfl) (fun _ _ _ h => h) (Or.inl ⟨by rfl, ?yy11⟩) (by assumption) ?rr11
          case yy11 => (intro wq hSw; (try dsimp only at hSw); go_simp; try with_reducible rfl)
          try simp only [Act.put, List.setIfInBounds_toArray, List.set_cons_zero, List.set_cons_succ]
          refine wpAnyH_take (i := 9) (oi := ⟨some 28, _, _, _, _, _⟩) (v := ?vv12) rfl (by kernel_rfl) (by kernel_rfl) (by kernel_rfl) (fun _ _ _ h => h) (Or.inl ⟨by rfl, ?yy12⟩) (by assumption) ?rr12
          case yy12 => (intro wq hSw; (try dsimp only at hSw); go_simp; try with_reducible rfl)
          try simp only [Act.put, List.setIfInBounds_toArray, List.set_cons_zero, List.set_cons_succ]
          refine wpAnyH_take (i := 11) (oi := ⟨some 6, _, _, _, _, _⟩) (v := ?vv13) rfl (by kernel_rfl) (by kernel_rfl) (by kernel_rfl) (fun _ _ _ h => h) (Or.inl ⟨by rfl, ?yy13⟩) (by assumption) ?rr13
          case yy13 => (intro wq hSw; (try dsimp only at hSw); go_simp; try with_reducible rfl)
          try simp only [Act.put, List.setIfInBounds_toArray, List.set_cons_zero, List.set_cons_succ]
          refine wpAnyH_done (by kernel_rfl) ?_ _
          go_wp2_with fail
          go_meet
          case rel => exact ⟨rfl, by first | rfl | (rw [← HLA.out]; rfl), hHeld.1⟩
        · skip
          refine wp_region_held_drew (S := (fun W' => Below W3.heap.size W3 W' ∧ W'.cell? ⟨wr.heap.size, 0, none⟩ = some (.int .i8 ko) ∧ W'.cell? ⟨wr.heap.size, 1, none⟩ = some (.int .i64 kp) ∧ W'.cell? ⟨wr.heap.size, 2, none⟩ = some (.bool ki) ∧ W'.cell? ⟨wr.heap.size, 3, none⟩ = some (.int .u8 kh) ∧ W'.cell? ⟨wr.heap.size, 4, none⟩ = some (.int .i64 kl) ∧ W'.cell? ⟨wr.heap.size, 5, none⟩ = some (.int .u8 kf) ∧ W'.cell? ⟨wr.heap.size, 6, none⟩ = some (.int .u8 kt) ∧ W'.cell? ⟨wr.heap.size, 7, none⟩ = some (.slice Ak nk ck))) (by kernel_rfl) ?ss14 (fun hHeld => ?rr14)
          case ss14 => (try dsimp only); exact HK.out _ (Below.refl _ _).drew
          refine wpAnyH_take (i := 0) (oi := ⟨some 19, _, _, _, _, _⟩) (v := ?vv15) rfl (by kernel_rfl) (by kernel_rfl) (by kernel_rfl) (fun _ _ _ h => h) (Or.inl ⟨by rfl, ?yy15⟩) (by assumption) ?rr15
          case yy15 => (intro wq hSw; (try dsimp only at hSw); go_simp; try with_reducible rfl)
          try simp only [Act.put, List.setIfInBounds_toArray, List.set_cons_zero, List.set_cons_succ]
          refine wpAnyH_take (i := 2) (oi := ⟨some 21, _, _, _, _, _⟩) (v := ?vv16) rfl (by kernel_rfl) (by kernel_rfl) (by kernel_rfl) (fun _ _ _ h => h) (Or.inl ⟨by rfl, ?yy16⟩) (by assumption) ?rr16
          case yy16 => (intro wq hSw; (try dsimp only at hSw); go_simp; try with_reducible rfl)
          try simp only [Act.put, List.setIfInBounds_toArray, List.set_cons_zero, List.set_cons_succ]
          refine wpAnyH_ready (rs := [1]) (by kernel_rfl) (by simp) ?_
          refine AllReadyH.cons (o := ⟨some 20, _, _, _, _, _⟩) rfl (fun K hK => ?_) AllReadyH.nil
          go_simp
          ((refine (HBG.out _).mono ?_); rintro e w4 ⟨rfl, hb4⟩)
          refine hK.out _ _ ?ss17 (fun hHeld2 => ?rr17)
          case ss17 => (try dsimp only); exact HK.out _ (bl hHeld.1 hb4)
          clear hK K
          clear hHeld
          have hHeld := hHeld2
          clear hHeld2
          try simp only [Act.put, List.setIfInBounds_toArray, List.set_cons_zero, List.set_cons_succ]
          refine wpAnyH_ready (rs := [3]) (by kernel_rfl) (by simp) ?_
          refine AllReadyH.cons (o := ⟨some 22, _, _, _, _, _⟩) rfl (fun K hK => ?_) AllReadyH.nil
          go_simp
          ((refine (HEN.out _).mono ?_); rintro e w5 ⟨rfl, hb5⟩)
          refine hK.out _ _ ?ss18 (fun hHeld2 => ?rr18)
          case ss18 => (try dsimp only); exact HK.out _ (bl hHeld.1 hb5)
          clear hK K
          clear hHeld
          have hHeld := hHeld2
          clear hHeld2
          try simp only [Act.put, List.setIfInBounds_toArray, List.set_cons_zero, List.set_cons_succ]
          refine wpAnyH_take (i := 4) (oi := ⟨some 23, _, _, _, _, _⟩) (v := ?vv19) rfl (by kernel_rfl) (by kernel_rfl) (by kernel_rfl) (fun _ _ _ h => h) (Or.inl ⟨by rfl, ?yy19⟩) (by assumption) ?rr19
          case yy19 => (intro wq hSw; (try dsimp only at hSw); go_simp; try with_reducible rfl)
          try simp only [Act.put, List.setIfInBounds_toArray, List.set_cons_zero, List.set_cons_succ]
          refine wpAnyH_take (i := 10) (oi := ⟨some 5, _, _, _, _, _⟩) (v := ?vv20) rfl (by kernel_rfl) (by kernel_rfl) (by kernel_rfl) (fun _ _ _ h => h) (Or.inl ⟨by rfl, ?yy20⟩) (by assumption) ?rr20
          case yy20 => (intro wq hSw; (try dsimp only at hSw); go_simp; try with_reducible rfl)
          try simp only [Act.put, List.setIfInBounds_toArray, List.set_cons_zero, List.set_cons_succ]
          refine wpAnyH_take (i := 5) (oi := ⟨some 24, _, _, _, _, _⟩) (v := undef) rfl (by kernel_rfl) (by kernel_rfl) (by kernel_rfl) (fun _ _ _ h => h) (Or.inr ⟨by rfl, rfl⟩) (by assumption) ?rr21
          try simp only [Act.put, List.setIfInBounds_toArray, List.set_cons_zero, List.set_cons_succ]
          refine wpAnyH_take (i := 6) (oi := ⟨some 25, _, _, _, _, _⟩) (v := undef) rfl (by kernel_rfl) (by kernel_rfl) (by kernel_rfl) (fun _ _ _ h => h) (Or.inr ⟨by rfl, rfl⟩) (by assumption) ?rr22
          try simp only [Act.put, List.setIfInBounds_toArray, List.set_cons_zero, List.set_cons_succ]
          refine wpAnyH_take (i := 7) (oi := ⟨some 26, _, _, _, _, _⟩) (v := undef) rfl (by kernel_rfl) (by kernel_rfl) (by kernel_rfl) (fun _ _ _ h => h) (Or.inr ⟨by rfl, rfl⟩) (by assumption) ?rr23
          try simp only [Act.put, List.setIfInBounds_toArray, List.set_cons_zero, List.set_cons_succ]
          refine wpAnyH_take (i := 8) (oi := ⟨some 27, _, _, _, _, _⟩) (v := undef) rfl (by kernel_rfl) (by kernel_rfl) (by kernel_rfl) (fun _ _ _ h => h) (Or.inr ⟨by rfl, rfl⟩) (by assumption) ?rr24
          try simp only [Act.put, List.setIfInBounds_toArray, List.set_cons_zero, List.set_cons_succ]
          refine wpAnyH_take (i := 9) (oi := ⟨some 28, _, _, _, _, _⟩) (v := ?vv25) rfl (by kernel_rfl) (by kernel_rfl) (by kernel_rfl) (fun _ _ _ h => h) (Or.inl ⟨by rfl, ?yy25⟩) (by assumption) ?rr25
          case yy25 => (intro wq hSw; (try dsimp only at hSw); go_simp; try with_reducible rfl)
          try simp only [Act.put, List.setIfInBounds_toArray, List.set_cons_zero, List.set_cons_succ]
          refine wpAnyH_take (i := 11) (oi := ⟨some 6, _, _, _, _, _⟩) (v := ?vv26) rfl (by kernel_rfl) (by kernel_rfl) (by kernel_rfl) (fun _ _ _ h => h) (Or.inl ⟨by rfl, ?yy26⟩) (by assumption) ?rr26
          case yy26 => (intro wq hSw; (try dsimp only at hSw); go_simp; try with_reducible rfl)
          try simp only [Act.put, List.setIfInBounds_toArray, List.set_cons_zero, List.set_cons_succ]
          refine wpAnyH_done (by kernel_rfl) ?_ _
          go_wp2_with fail
          go_meet
          case rel => exact ⟨rfl, by first | rfl | (rw [← HLA.out]; rfl), hHeld.1⟩
      case rest =>
        obtain ⟨rfl, rfl, hbc⟩ := hcut
        have HBC := Lib.hid (bl HB3.out hbc)
        clear hbc
        obtain ⟨k0, k1, k2, k7⟩ := HBK.out wc (HBC.out.mono (by rw [HB0.out.2]; exact Nat.le_refl _))
        go_wp2_with fail
        ((refine (HT.out _).mono ?_); rintro e w4 ⟨rfl, rfl⟩)
        obtain ⟨tu, htu⟩ : ∃ x, turnd hd m = x := ⟨_, rfl⟩
        rw [htu] at HKB ⊢
        clear htu
        obtain ⟨kb, hkb⟩ : ∃ x, grK t m = x := ⟨_, rfl⟩
        rw [hkb] at HKB
        have HKK := Lib.hid hkb
        clear hkb
        cases tu
        all_goals
          go_upto_region 8 with fail
          go_cut [52] from 36 to 53 (fun a wx => a = .bool (!kb) ∧ wx = wc)
          case first =>
            have hk2 := HKB.out
            by_cases hz : pj = 0
            · subst hz
              cases ij <;> cases first <;> cases last <;> (simp at hk2; subst hk2; go_wp2_with fail; go_meet; case rel => exact ⟨rfl, rfl⟩)
            · have hz1 : (pj != 0) = true := by simpa using hz
              have hz2 : (pj == 0) = false := by simpa using hz
              rw [hz2] at hk2
              clear hz hz2
              cases ij <;> cases first <;> cases last <;> (simp at hk2; subst hk2; go_wp2_with fail; go_meet; case rel => exact ⟨rfl, rfl⟩)
          case rest =>
            obtain ⟨rfl, rfl⟩ := hcut
            cases kb
            · go_wp2_with fail
              go_ret
              refine ⟨?_, bl HB0.out.1 HBC.out⟩
              cases r
              · rfl
              · exact absurd (HR.out.1 rfl m hlt) (by rw [HKK.out]; decide)
            · go_wp2_with fail
              go_roundg (n - (m + 1))
              case measure => omega
              case rel => exact ⟨m + 1, by omega, rfl, by go_num, HBC.out, all_succ HA.out HKK.out⟩
    · obtain rfl : m = n := by omega
      go_wp2_with fail
      go_ret
      exact ⟨by rw [HR.out.2 HA.out]; rfl, bl HB0.out.1 HBR.out⟩
end Go.Proofs.YtjklecncdinabaaGreatDoor.C
