/- Parts of this claim: CgC. -/
import Derived.Test.YtobplngonkdbpaaGreatDoorP23
set_option linter.unusedVariables false
set_option linter.unusedSimpArgs false
/- CgC -/
namespace Go.Proofs.YtobplngonkdbpaaGreatDoor.D
open Go.RowKit
open Go.Proofs.YtobplngonkdbpaaGreatDoor.B
set_option linter.unusedVariables false
set_option linter.unusedSimpArgs false
def kidsN (op : Int) : Nat := if op = 3 \/ op = 4 \/ op = 6 then 2 else if op = 5 then 1 else 0
def hiK (f : List Nd -> Option (Nat × List Nd)) : Nat -> Nat -> List Nd -> Option (Nat × List Nd)
 | 0, m, r => some (m, r)
 | k + 1, m, r => match f r with
  | none => none
  | some (h, r') => hiK f k (max m h) r'
/-- The height of the first node, what stands behind it. -/
def hiF : Nat -> List Nd -> Option (Nat × List Nd)
 | 0, _ => none
 | _ + 1, [] => none
 | d + 1, c :: r => match hiK (hiF d) (kidsN c.op) 0 r with
  | none => none
  | some (m, r') => some (m + 1, r')
theorem hiK_le {f : List Nd -> Option (Nat × List Nd)} (hf : ∀ l m r, f l = some (m, r) -> m <= l.length /\ r.length < l.length) : ∀ (k m : Nat) (l : List Nd) (m' : Nat) (r : List Nd), hiK f k m l = some (m', r) -> m' <= max m l.length /\ r.length <= l.length
 | 0, m, l, m', r, h => by
  simp only [hiK] at h
  injection h with h
  injection h with h1 h2
  subst h1 h2
  exact ⟨by omega, Nat.le_refl _⟩
 | k + 1, m, l, m', r, h => by
  rw [hiK] at h
  split at h
  · cases h
  ·
   rename_i h' r' he
   obtain ⟨a1, a2⟩ := hf _ _ _ he
   obtain ⟨b1, b2⟩ := hiK_le hf k _ _ _ _ h
   exact ⟨by omega, by omega⟩
theorem hiF_le : ∀ (d : Nat) (l : List Nd) (m : Nat) (r : List Nd), hiF d l = some (m, r) -> m <= l.length /\ r.length < l.length
 | 0, l, m, r, h => by simp [hiF] at h
 | d + 1, [], m, r, h => by simp [hiF] at h
 | d + 1, c :: l, m, r, h => by
  rw [hiF] at h
  split at h
  · cases h
  ·
   rename_i m' r' he
   injection h with h
   injection h with h1 h2
   subst h1 h2
   obtain ⟨a1, a2⟩ := hiK_le (hiF_le d) _ _ _ _ _ he
   simp only [List.length_cons]
   exact ⟨by omega, by omega⟩
/-- The greatest height of the casts. -/
def heS : Option (Nat × List Nd) -> Nat -> Nat
 | some (h, []), out => max out h
 | _, out => out
def heW (w : Wt) (out : Nat) : Nat := heS (hiF w.co.length w.co) out
def heV (c : Cod) : Nat := c.casts.foldl (fun out w => heW w out) 0
def szV (c : Cod) : Nat := (c.fns.map fun f => f.code.length).sum
theorem kids_c (op : Int) (w : World) (h0 : -128 <= op) (h1 : op <= 127) :
  Calls Tryz.prog 98 #[.int .i8 op] w fun e w' => e = .returned (.int .i64 (kidsN op : Nat)) /\ w' = w := by
 go_enter Tryz.func98, Tryz.ntmps98
 by_cases h3 : op = 3
 · subst h3; go_wp2_with fail; go_ret; exact ⟨rfl, rfl⟩
 by_cases h4 : op = 4
 · subst h4; go_wp2_with fail; go_ret; exact ⟨rfl, rfl⟩
 by_cases h6 : op = 6
 · subst h6; go_wp2_with fail; go_ret; exact ⟨rfl, rfl⟩
 by_cases h5 : op = 5
 · subst h5; go_wp2_with fail; go_ret; exact ⟨rfl, rfl⟩
 have e : kidsN op = 0 := by unfold kidsN; rw [if_neg (by omega), if_neg h5]
 rw [e]
 have e3 : (op == 3) = false := by simpa using h3
 have e4 : (op == 4) = false := by simpa using h4
 have e5 : (op == 5) = false := by simpa using h5
 have e6 : (op == 6) = false := by simpa using h6
 clear h3 h4 h5 h6
 go_wp2_with fail
 go_ret
 exact ⟨rfl, rfl⟩
def HiQ (r : Option (Nat × List Nd)) (w : World) (e : Ending) (w' : World) : Prop :=
 (match r with
  | none => e = .returned (.tuple #[.int .i64 0, .slice none 0 0, .bool false])
  | some (m, r) => ∃ A' c', e = .returned (.tuple #[.int .i64 m, .slice A' r.length c', .bool true]) /\ r.length <= c' /\ Sl w' w'.heap.size 7 A' r.length (cosC r)) /\ Below w.heap.size w w'
theorem cos_len : ∀ l : List Nd, (cosC l).length = l.length * 7
 | [] => rfl
 | c :: l => by rw [show cosC (c :: l) = ndC c ++ cosC l from rfl, List.length_append, cos_len l, List.length_cons]; show 7 + _ = _; omega
theorem hiK_suf {f : List Nd -> Option (Nat × List Nd)} (hf : ∀ l m r, f l = some (m, r) -> r <:+ l) : ∀ (k m : Nat) (l : List Nd) (m' : Nat) (r : List Nd), hiK f k m l = some (m', r) -> r <:+ l
 | 0, m, l, m', r, h => by
  simp only [hiK] at h
  injection h with h
  injection h with h1 h2
  rw [<- h2]; exact List.suffix_refl _
 | k + 1, m, l, m', r, h => by
  rw [hiK] at h
  split at h
  · cases h
  ·
   rename_i h' r' he
   exact (hiK_suf hf k _ _ _ _ h).trans (hf _ _ _ he)
theorem hiF_suf : ∀ (d : Nat) (l : List Nd) (m : Nat) (r : List Nd), hiF d l = some (m, r) -> r <:+ l
 | 0, l, m, r, h => by simp [hiF] at h
 | d + 1, [], m, r, h => by simp [hiF] at h
 | d + 1, c :: l, m, r, h => by
  rw [hiF] at h
  split at h
  · cases h
  ·
   rename_i m' r' he
   injection h with h
   injection h with h1 h2
   rw [<- h2]
   exact (hiK_suf (hiF_suf d) _ _ _ _ _ he).trans (List.suffix_cons _ _)
theorem cos_tail {w : World} {B b o : Nat} {c : Nd} {r : List Nd} (h : Sl w B 7 (some ⟨b, o, none⟩) (c :: r).length (cosC (c :: r))) : Sl w B 7 (some ⟨b, o + 7, none⟩) r.length (cosC r) := by
 refine ⟨cos_len r, ?_⟩
 obtain ⟨b', o', e, hb, hc⟩ := h.at_ (by simp)
 injection e with e
 injection e with e1 e2
 subst e1 e2
 refine .inr ⟨b, o + 7, rfl, hb, fun j u hu => ?_⟩
 rw [Nat.add_assoc]
 refine hc (7 + j) u ?_
 rw [show cosC (c :: r) = ndC c ++ cosC r from rfl, List.getElem?_append_right (by show 7 <= 7 + j; omega)]
 rw [show 7 + j - (ndC c).length = j by show 7 + j - 7 = j; omega]
 exact hu
set_option maxRecDepth 100000 in
set_option maxHeartbeats 2000000 in
theorem high_c : ∀ (d : Nat) (l : List Nd) (A : Option Addr) (c : Nat) (w : World), l.length <= d -> l.length <= 1073741824 -> Sl w w.heap.size 7 A l.length (cosC l) -> l.length <= c -> (∀ x ∈ l, x.ok) ->
  Calls Tryz.prog 45 #[.slice A l.length c] w fun e w' => HiQ (hiF d l) w e w' := by
 intro d
 induction d with
 | zero =>
  intro l A c w h1 h2 h3 h4 h5
  obtain rfl : l = [] := List.eq_nil_of_length_eq_zero (by omega)
  go_enter Tryz.func45, Tryz.ntmps45
  go_wp2_with fail
  go_ret3
  exact ⟨rfl, b0⟩
 | succ d ih =>
  intro l A c w h1 h2 h3 h4 h5
  cases l with
  | nil =>
   go_enter Tryz.func45, Tryz.ntmps45
   go_wp2_with fail
   go_ret3
   exact ⟨rfl, b0⟩
  | cons x l =>
   obtain ⟨b, o, rfl, hb, hc⟩ := h3.at_ (by simp)
   have hop : w.cell? ⟨b, o, none⟩ = some (.int .i8 x.op) := hc 0 _ rfl
   have hx := h5 x (by simp)
   have HK := Lib.hid (fun W => kids_c x.op W hx.1 hx.2.1)
   have ht := Lib.hid (cos_tail h3)
   obtain ⟨N, hN⟩ : ∃ N, l.length = N := ⟨_, rfl⟩
   simp only [List.length_cons] at h1 h2 h4 ⊢
   rw [hN] at h1 h2 h4 ⊢
   have HIH := Lib.hid (And.intro ih (And.intro hN (fun y hy => h5 y (List.mem_cons_of_mem _ hy))))
   obtain ⟨KN, hKN⟩ : ∃ n, kidsN x.op = n := ⟨_, rfl⟩
   rw [hKN] at HK
   have HKN := Lib.hid hKN
   have hK2 : KN <= 2 := by rw [<- hKN]; unfold kidsN; split <;> (try split) <;> omega
   clear ih h5 hc hb h3 hx hN hKN
   have hc1 : (1 : Int) <= (N : Int) + 1 := by omega
   go_enter Tryz.func45, Tryz.ntmps45
   go_upto_region 3 with fail
   go_cut [5, 6] from 13 (fun m r wx => m = .int .i64 0 /\ (∃ A' c', r = .slice A' N c' /\ N <= c' /\ Sl w w.heap.size 7 A' N (cosC l)) /\ ∃ n, wx = w.drewN n)
   case first =>
    by_cases hc1' : c = 1
    ·
     have hN0 : N = 0 := by omega
     subst hc1'
     subst hN0
     go_quiet (fail)
     go_wp2_with fail
     go_meet
     case rel => exact ⟨rfl, ⟨_, _, rfl, Nat.zero_le _, by have hl := HIH.out.2.1; obtain rfl := List.eq_nil_of_length_eq_zero hl; exact Sl.nil _ _ _ _⟩, nq, rfl⟩
    ·
     have hcc : (N : Int) + 1 <= (c : Int) := by omega
     go_quiet (fail)
     go_wp2_with fail
     go_meet
     case rel => exact ⟨rfl, ⟨_, _, rfl, by omega, by have h := ht.out; rw [HIH.out.2.1] at h; exact h⟩, nq, rfl⟩
   case rest =>
    obtain ⟨rfl, ⟨A', c', rfl, hc', hsl⟩, n0, rfl⟩ := hcut
    have HSL := Lib.hid (And.intro hc' hsl)
    have hop' : (w.drewN n0).cell? ⟨b, o, none⟩ = some (.int .i8 x.op) := hop
    clear hc' hsl hop
    go_wp2_with fail
    (refine (HK.out _).mono ?_); rintro ev w1 ⟨rfl, rfl⟩
    go_wp2_with fail
    go_loopg [5, 6, 20] KN (fun gg m r i wr => ∃ (k mm RN : Nat) (rr : List Nd) (A' : Option Addr) (c' : Nat), k <= KN /\ gg = KN - k /\ i = .int .i64 k /\ m = .int .i64 mm /\ r = .slice A' RN c' /\ mm <= N /\ Hid (rr.length = RN /\ RN <= c' /\ Sl wr wr.heap.size 7 A' RN (cosC rr) /\ RN <= N /\ (∀ y ∈ rr, y.ok) /\ hiK (hiF d) KN 0 l = hiK (hiF d) (KN - k) mm rr /\ Below w.heap.size w wr))
    case atStart => exact ⟨0, 0, N, l, A', c', by omega, rfl, rfl, rfl, rfl, by omega, Lib.hid ⟨HIH.out.2.1, HSL.out.1, HSL.out.2.drewN n0, Nat.le_refl _, HIH.out.2.2, rfl, bdr b0 n0⟩⟩
    case round =>
     obtain ⟨k, mm, RN, rr, A1, c1, hk, rfl, rfl, rfl, rfl, hmm, HR⟩ := hrel
     have hRN := HR.out.2.2.2.1
     clear hop'
     by_cases hlt : k < KN
     ·
      have hcall := HIH.out.1 rr A1 c1 wr (by rw [HR.out.1]; omega) (by rw [HR.out.1]; omega) (by rw [HR.out.1]; exact HR.out.2.2.1) (by rw [HR.out.1]; exact HR.out.2.1) HR.out.2.2.2.2.1
      rw [HR.out.1] at hcall
      have hks : KN - k = (KN - (k + 1)) + 1 := by omega
      have hval := HR.out.2.2.2.2.2.1
      rw [hks, hiK] at hval
      have HKS := Lib.hid hks
      rcases hf : hiF d rr with _ | ⟨h, r'⟩
      ·
       rw [hf] at hcall hval
       have HC := Lib.hid hcall
       have HV := Lib.hid hval
       clear hcall hval hf hks
       go_wp2_with fail
       (refine HC.out.mono ?_); rintro ev w2 ⟨rfl, hb2⟩
       have HB2 := Lib.hid hb2
       clear hb2
       go_wp2_with fail
       go_ret3
       have e : hiF (d + 1) (x :: l) = none := by rw [hiF, HKN.out, HV.out]
       rw [e]
       exact ⟨rfl, HR.out.2.2.2.2.2.2.trans (HB2.out.mono HR.out.2.2.2.2.2.2.size)⟩
      ·
       rw [hf] at hcall hval
       obtain ⟨hle1, hle2⟩ := hiF_le d rr h r' hf
       have hsuf := hiF_suf d rr h r' hf
       rw [HR.out.1] at hle1 hle2
       have HC := Lib.hid hcall
       have HV := Lib.hid (And.intro hval hsuf)
       clear hcall hval hf hsuf hks
       go_wp2_with fail
       (refine HC.out.mono ?_); rintro ev w2 ⟨⟨A2, c2, rfl, hc2, hs2⟩, hb2⟩
       obtain ⟨RN2, hRN2⟩ : ∃ n, r'.length = n := ⟨_, rfl⟩
       rw [hRN2] at hc2 hs2 hle2 ⊢
       have HB2 := Lib.hid (And.intro hb2 (And.intro hc2 (And.intro hs2 hRN2)))
       clear hb2 hc2 hs2 hRN2
       go_wp2_with fail
       go_roundg (KN - (k + 1))
       case measure => omega
       case rel =>
        refine ⟨k + 1, max mm h, RN2, r', A2, c2, by omega, rfl, by go_num, ?_, rfl, by omega, Lib.hid ⟨HB2.out.2.2.2, HB2.out.2.1, HB2.out.2.2.1, by omega, fun y hy => HR.out.2.2.2.2.1 y (HV.out.2.subset hy), HV.out.1, HR.out.2.2.2.2.2.2.trans (HB2.out.1.mono HR.out.2.2.2.2.2.2.size)⟩⟩
        simp
        omega
     ·
      obtain rfl : k = KN := by omega
      have hval := HR.out.2.2.2.2.2.1
      rw [Nat.sub_self, hiK] at hval
      have HV := Lib.hid hval
      clear hval
      go_wp2_with fail
      go_ret3
      have e : hiF (d + 1) (x :: l) = some (mm + 1, rr) := by rw [hiF, HKN.out, HV.out]
      rw [e]
      refine ⟨⟨A1, c1, ?_, by rw [HR.out.1]; exact HR.out.2.1, by rw [HR.out.1]; exact HR.out.2.2.1⟩, HR.out.2.2.2.2.2.2⟩
      rw [HR.out.1]
      rfl
set_option maxRecDepth 100000 in
set_option maxHeartbeats 2000000 in
theorem size_c (L : CoL) (w : World) (hs : szV L.code <= 9223372036854775807) (hCR : CR w L) :
  Calls Tryz.prog 15 #[.agg L.vals.toArray] w fun e w' => e = .returned (.int .i64 (szV L.code : Nat)) /\ Below w.heap.size w w' := by
 obtain ⟨A1, c1, e1, hc1, hd1, s1⟩ := hCR.f.sl
 obtain ⟨A2, c2, e2, hc2, hd2, s2⟩ := hCR.c.sl
 obtain ⟨A3, c3, e3, hc3, hd3, s3⟩ := hCR.n.sl
 obtain ⟨A4, c4, e4, hc4, hd4, s4⟩ := hCR.t.sl
 obtain ⟨A5, c5, e5, hc5, hd5, s5⟩ := hCR.y.sl
 obtain ⟨n1, hn1⟩ : ∃ n, L.fns.length = n := ⟨_, rfl⟩
 obtain ⟨n2, hn2⟩ : ∃ n, L.casts.length = n := ⟨_, rfl⟩
 obtain ⟨n3, hn3⟩ : ∃ n, L.nums.length = n := ⟨_, rfl⟩
 obtain ⟨n4, hn4⟩ : ∃ n, L.texts.length = n := ⟨_, rfl⟩
 obtain ⟨n5, hn5⟩ : ∃ n, L.types.length = n := ⟨_, rfl⟩
 rw [show L.vals.toArray = #[.slice A1 n1 c1, .slice A2 n2 c2, .slice A3 n3 c3, .slice A4 n4 c4, .slice A5 n5 c5] by unfold CoL.vals; rw [e1, e2, e3, e4, e5, hn1, hn2, hn3, hn4, hn5]]
 simp only [maxLen] at hd1
 have m1 : n1 <= 9223372036854775807 := by omega
 have HF := Lib.hid (And.intro hCR.fe hCR.fc)
 have HN := Lib.hid hn1
 rw [hn1] at s1
 have HS := Lib.hid s1
 have HZ := Lib.hid hs
 obtain ⟨W1, hW1⟩ : ∃ W1, w.alloc (.cells #[.slice A1 n1 c1, .slice A2 n2 c2, .slice A3 n3 c3, .slice A4 n4 c4, .slice A5 n5 c5] 27) = W1 := ⟨_, rfl⟩
 have hb1 : Below w.heap.size w W1 := by rw [<- hW1]; exact bal b0 _
 have y0 : W1.cell? ⟨w.heap.size, 0, none⟩ = some (.slice A1 n1 c1) := by rw [<- hW1]; exact ((Blk.new _ _ _).cell 0).trans rfl
 have HB := Lib.hid hb1
 clear hCR s1 s2 s3 s4 s5 e1 e2 e3 e4 e5 hn1 hn2 hn3 hn4 hn5 hd1 hd2 hd3 hd4 hd5 hc1 hc2 hc3 hc4 hc5 hs hb1
 go_enter Tryz.func15, Tryz.ntmps15
 go_upto_region 1 with fail
 clear hW1
 go_wp2_with fail
 go_loopg [3, 9] n1 (fun gg z i wr => ∃ k S : Nat, k <= n1 /\ gg = n1 - k /\ i = .int .i64 k /\ z = .int .i64 S /\ Hid (((L.fns.take k).map fun g => g.f.code.length).sum = S /\ Below w.heap.size w wr))
 case atStart => exact ⟨0, 0, by omega, rfl, rfl, rfl, Lib.hid ⟨rfl, HB.out⟩⟩
 case round =>
  obtain ⟨k, S, hk, rfl, rfl, rfl, HR⟩ := hrel
  clear y0
  by_cases hlt : k < n1
  ·
   obtain ⟨g, hx⟩ : ∃ g, L.fns[k]? = some g := ⟨_, List.getElem?_eq_getElem (by rw [HN.out]; exact hlt)⟩
   obtain ⟨b, o, rfl, hblt, hcell⟩ := HS.out.at_ (by omega)
   obtain ⟨Ae, ce, eev, hce, hde, sev⟩ := (HF.out.1 g (List.mem_of_getElem? hx)).sl
   obtain ⟨Ac, cc, ecv, hcc, hcd, sco⟩ := (HF.out.2 g (List.mem_of_getElem? hx)).sl
   obtain ⟨M, hM⟩ : ∃ M, g.f.env.length = M := ⟨_, rfl⟩
   obtain ⟨Q, hQ⟩ : ∃ Q, g.f.code.length = Q := ⟨_, rfl⟩
   rw [hM] at eev
   rw [hQ] at ecv
   have kc : ∀ j v, (FuL.cells g)[j]? = some v -> j < 4 -> wr.cell? ⟨b, o + k * 4 + j, none⟩ = some v := fun j v hv hj => by
    rw [Nat.add_assoc]
    exact (HR.out.2.cell (p := ⟨b, o + (k * 4 + j), none⟩) hblt).trans (hcell _ _ (by rw [flat_at FuL.cells 4 (fun _ => rfl) _ _ _ _ hx hj]; exact hv))
   have hc0 : wr.cell? ⟨b, o + k * 4, none⟩ = some (.slice Ae M ce) := kc 0 _ (by show some g.ev = _; rw [eev]) (by decide)
   have hc1 : wr.cell? ⟨b, o + k * 4 + 1, none⟩ = some (.string ⟨g.f.param.toArray⟩) := kc 1 _ rfl (by decide)
   have hc2 : wr.cell? ⟨b, o + k * 4 + 2, none⟩ = some (.string ⟨g.f.res.toArray⟩) := kc 2 _ rfl (by decide)
   have hc3 : wr.cell? ⟨b, o + k * 4 + 3, none⟩ = some (.slice Ac Q cc) := kc 3 _ (by show some g.cv = _; rw [ecv]) (by decide)
   have hnext : ((L.fns.take (k + 1)).map fun g => g.f.code.length).sum = S + Q := by rw [List.take_add_one, hx, List.map_append, List.sum_append, HR.out.1]; simp [hQ]
   have hle : S + Q <= 9223372036854775807 := by
    have h1 : ((L.fns.take (k + 1)).map fun g => g.f.code.length).sum + ((L.fns.drop (k + 1)).map fun g => g.f.code.length).sum = szV L.code := by
     rw [<- List.sum_append, <- List.map_append, List.take_append_drop]; simp only [szV, CoL.code, List.map_map]; rfl
    have := HZ.out
    omega
   have HX := Lib.hid hnext
   clear hx hblt hcell kc hM hQ eev ecv hce hde sev hcc hcd sco hnext
   go_wp2_with fail
   go_roundg (n1 - (k + 1))
   case measure => omega
   case rel => exact ⟨k + 1, S + Q, by omega, rfl, by go_num, by go_num, Lib.hid ⟨HX.out, bal HR.out.2 _⟩⟩
  ·
   obtain rfl : k = n1 := by omega
   have hz : S = szV L.code := by
    rw [<- HR.out.1, <- HN.out, List.take_length]; simp only [szV, CoL.code, List.map_map]; rfl
   have HZ2 := Lib.hid hz
   clear hz
   go_wp2_with fail
   go_ret
   rw [<- HZ2.out]
   exact ⟨rfl, HR.out.2⟩
set_option maxRecDepth 100000 in
set_option maxHeartbeats 2000000 in
theorem height_c (L : CoL) (w : World) (hok : L.code.ok) (hlc : ∀ g ∈ L.casts, g.w.co.length <= 1073741824) (hCR : CR w L) :
  Calls Tryz.prog 13 #[.agg L.vals.toArray] w fun e w' => e = .returned (.int .i64 (heV L.code : Nat)) /\ Below w.heap.size w w' := by
 obtain ⟨A1, c1, e1, hc1, hd1, s1⟩ := hCR.f.sl
 obtain ⟨A2, c2, e2, hc2, hd2, s2⟩ := hCR.c.sl
 obtain ⟨A3, c3, e3, hc3, hd3, s3⟩ := hCR.n.sl
 obtain ⟨A4, c4, e4, hc4, hd4, s4⟩ := hCR.t.sl
 obtain ⟨A5, c5, e5, hc5, hd5, s5⟩ := hCR.y.sl
 obtain ⟨n1, hn1⟩ : ∃ n, L.fns.length = n := ⟨_, rfl⟩
 obtain ⟨n2, hn2⟩ : ∃ n, L.casts.length = n := ⟨_, rfl⟩
 obtain ⟨n3, hn3⟩ : ∃ n, L.nums.length = n := ⟨_, rfl⟩
 obtain ⟨n4, hn4⟩ : ∃ n, L.texts.length = n := ⟨_, rfl⟩
 obtain ⟨n5, hn5⟩ : ∃ n, L.types.length = n := ⟨_, rfl⟩
 rw [show L.vals.toArray = #[.slice A1 n1 c1, .slice A2 n2 c2, .slice A3 n3 c3, .slice A4 n4 c4, .slice A5 n5 c5] by unfold CoL.vals; rw [e1, e2, e3, e4, e5, hn1, hn2, hn3, hn4, hn5]]
 simp only [maxLen] at hd2
 have m2 : n2 <= 9223372036854775807 := by omega
 have HF := Lib.hid hCR.co
 have HN := Lib.hid hn2
 rw [hn2] at s2
 have HS := Lib.hid s2
 have HO := Lib.hid (And.intro hok hlc)
 obtain ⟨W1, hW1⟩ : ∃ W1, w.alloc (.cells #[.slice A1 n1 c1, .slice A2 n2 c2, .slice A3 n3 c3, .slice A4 n4 c4, .slice A5 n5 c5] 27) = W1 := ⟨_, rfl⟩
 have hb1 : Below w.heap.size w W1 := by rw [<- hW1]; exact bal b0 _
 have y0 : W1.cell? ⟨w.heap.size, 1, none⟩ = some (.slice A2 n2 c2) := by rw [<- hW1]; exact ((Blk.new _ _ _).cell 1).trans rfl
 have HB := Lib.hid hb1
 clear hCR s1 s2 s3 s4 s5 e1 e2 e3 e4 e5 hn1 hn2 hn3 hn4 hn5 hd1 hd2 hd3 hd4 hd5 hc1 hc2 hc3 hc4 hc5 hok hlc hb1
 go_enter Tryz.func13, Tryz.ntmps13
 go_upto_region 1 with fail
 clear hW1
 go_wp2_with fail
 go_loopg [3, 12] n2 (fun gg z i wr => ∃ k S : Nat, k <= n2 /\ gg = n2 - k /\ i = .int .i64 k /\ z = .int .i64 S /\ Hid (heV ⟨[], (L.casts.take k).map (·.w), [], [], []⟩ = S /\ Below w.heap.size w wr))
 case atStart => exact ⟨0, 0, by omega, rfl, rfl, rfl, Lib.hid ⟨rfl, HB.out⟩⟩
 case round =>
  obtain ⟨k, S, hk, rfl, rfl, rfl, HR⟩ := hrel
  clear y0
  by_cases hlt : k < n2
  ·
   obtain ⟨g, hx⟩ : ∃ g, L.casts[k]? = some g := ⟨_, List.getElem?_eq_getElem (by rw [HN.out]; exact hlt)⟩
   obtain ⟨b, o, rfl, hblt, hcell⟩ := HS.out.at_ (by omega)
   have hm := List.mem_of_getElem? hx
   obtain ⟨Ac, cc, ecv, hcc, hcd, sco⟩ := (HF.out g hm).sl
   obtain ⟨M, hM⟩ : ∃ M, g.w.co.length = M := ⟨_, rfl⟩
   have hokc : ∀ y ∈ g.w.co, y.ok := HO.out.1.2.1 g.w (by simp only [CoL.code, List.mem_map]; exact ⟨g, hm, rfl⟩)
   have HH := Lib.hid (fun W (h : Below w.heap.size w W) => high_c g.w.co.length g.w.co Ac cc W (Nat.le_refl _) (HO.out.2 g hm) ((sco.below h).more h.size) hcc hokc)
   rw [hM] at ecv HH
   have kc : ∀ j v, (WtL.cells g)[j]? = some v -> j < 3 -> wr.cell? ⟨b, o + k * 3 + j, none⟩ = some v := fun j v hv hj => by
    rw [Nat.add_assoc]
    exact (HR.out.2.cell (p := ⟨b, o + (k * 3 + j), none⟩) hblt).trans (hcell _ _ (by rw [flat_at WtL.cells 3 (fun _ => rfl) _ _ _ _ hx hj]; exact hv))
   have hc0 : wr.cell? ⟨b, o + k * 3, none⟩ = some (.string ⟨g.w.f.toArray⟩) := kc 0 _ rfl (by decide)
   have hc1 : wr.cell? ⟨b, o + k * 3 + 1, none⟩ = some (.string ⟨g.w.t.toArray⟩) := kc 1 _ rfl (by decide)
   have hc2 : wr.cell? ⟨b, o + k * 3 + 2, none⟩ = some (.slice Ac M cc) := kc 2 _ (by show some g.cv = _; rw [ecv]) (by decide)
   have hnext : heV ⟨[], (L.casts.take (k + 1)).map (·.w), [], [], []⟩ = heW g.w S := by
    rw [List.take_add_one, hx, <- HR.out.1]; simp [heV, List.foldl_append]
   obtain ⟨R, hR⟩ : ∃ R, hiF M g.w.co = R := ⟨_, rfl⟩
   have hw : heW g.w S = heS R S := by unfold heW; rw [hM, hR]
   rw [hw] at hnext
   rw [hR] at HH
   have HX := Lib.hid hnext
   clear hx hblt hcell kc hM ecv hcc hcd sco hnext hw hokc hm hR
   go_upto_region 5 with fail
   have HB2 := Lib.hid (bal HR.out.2 (.cells #[.string ⟨g.w.f.toArray⟩, .string ⟨g.w.t.toArray⟩, .slice Ac M cc] 84))
   rcases R with _ | ⟨h, rr⟩
   ·
    go_wp2_with fail
    (refine (HH.out _ HB2.out).mono ?_); rintro ev w2 ⟨rfl, hb2⟩
    have HB3 := Lib.hid (bl HB2.out hb2)
    clear hb2
    go_wp2_with fail
    go_roundg (n2 - (k + 1))
    case measure => omega
    case rel => exact ⟨k + 1, S, by omega, rfl, by go_num, rfl, Lib.hid ⟨HX.out, HB3.out⟩⟩
   ·
    obtain ⟨RN, hRN⟩ : ∃ n, rr.length = n := ⟨_, rfl⟩
    have HRN := Lib.hid hRN
    clear hRN
    go_wp2_with fail
    (refine (HH.out _ HB2.out).mono ?_); rintro ev w2 ⟨⟨A9, c9, rfl, _, _⟩, hb2⟩
    rw [HRN.out]
    have HB3 := Lib.hid (bl HB2.out hb2)
    clear hb2
    by_cases hr0 : RN = 0
    ·
     have hrr : rr = [] := List.eq_nil_of_length_eq_zero (by rw [HRN.out]; exact hr0)
     have hnx := HX.out
     rw [hrr] at hnx
     have HNX := Lib.hid hnx
     have hz0 : ((RN : Nat) : Int) = 0 := by omega
     clear hrr hnx
     subst hr0
     go_wp2_with fail
     go_roundg (n2 - (k + 1))
     case measure => omega
     case rel => exact ⟨k + 1, max S h, by omega, rfl, by go_num, by simp; omega, Lib.hid ⟨HNX.out, HB3.out⟩⟩
    ·
     have hnx : heV ⟨[], (L.casts.take (k + 1)).map (·.w), [], [], []⟩ = S := by
      have := HX.out
      cases rr with
      | nil => exact absurd HRN.out.symm hr0
      | cons _ _ => exact this
     have HNX := Lib.hid hnx
     have hz0 : ((RN : Nat) : Int) ≠ 0 := by omega
     have hz1 : (((RN : Nat) : Int) == 0) = false := by simp; omega
     clear hnx hr0
     go_wp2_with fail
     go_roundg (n2 - (k + 1))
     case measure => omega
     case rel => exact ⟨k + 1, S, by omega, rfl, by go_num, rfl, Lib.hid ⟨HNX.out, HB3.out⟩⟩
  ·
   obtain rfl : k = n2 := by omega
   have hz : S = heV L.code := by
    rw [<- HR.out.1, <- HN.out, List.take_length]; rfl
   have HZ2 := Lib.hid hz
   clear hz
   go_wp2_with fail
   go_ret
   rw [<- HZ2.out]
   exact ⟨rfl, HR.out.2⟩
end Go.Proofs.YtobplngonkdbpaaGreatDoor.D
