/- Parts of this claim: AoD. -/
import Derived.Test.YtobplngonkdbpaaGreatDoorP33
import Derived.Test.YtobplngonkdbpaaGreatDoorP24
set_option linter.unusedVariables false
set_option linter.unusedSimpArgs false
/- AoD -/
namespace Go.Proofs.YtobplngonkdbpaaGreatDoor.D
open Go.RowKit
open Go.Proofs.YtobplngonkdbpaaGreatDoor.B
set_option linter.unusedVariables false
set_option linter.unusedSimpArgs false
theorem kidsA_any (op : Int) (w : World) (h0 : -128 <= op) (h1 : op <= 127) :
  Calls Tryz.prog 99 #[.int .i8 op] w fun e w' => e = .returned (.int .i64 (kidsN op : Nat)) /\ w = w' := by
 go_enter Tryz.func99, Tryz.ntmps99
 by_cases h3 : op = 3
 · subst h3; go_wp2_with fail; go_ret; exact ⟨rfl, rfl⟩
 by_cases h4 : op = 4
 · subst h4; go_wp2_with fail; go_ret; exact ⟨rfl, rfl⟩
 by_cases h6 : op = 6
 · subst h6; go_wp2_with fail; go_ret; exact ⟨rfl, rfl⟩
 by_cases h5 : op = 5
 · subst h5; go_wp2_with fail; go_ret; exact ⟨rfl, rfl⟩
 have e : kidsN op = 0 := by unfold kidsN; rw [if_neg (by omega), if_neg h5]
 rw [e]
 have e3 : (op == 3) = false := by simpa using h3
 have e4 : (op == 4) = false := by simpa using h4
 have e5 : (op == 5) = false := by simpa using h5
 have e6 : (op == 6) = false := by simpa using h6
 clear h3 h4 h5 h6
 go_wp2_with fail
 go_ret
 exact ⟨rfl, rfl⟩
/-- What the answer's look at a node's height returns, of a list of n nodes. -/
def HiA (n : Nat) (r : Option (Nat × List Nd)) (w : World) (e : Ending) (w' : World) : Prop :=
 (match r with
  | none => ∃ z, e = .returned (.tuple #[.int .i64 0, .int .i64 z, .bool false])
  | some (m, r) => e = .returned (.tuple #[.int .i64 m, .int .i64 (n - r.length : Nat), .bool true])) /\ w = w'
theorem suf_drop {α : Type} {l r : List α} (h : r <:+ l) : r = l.drop (l.length - r.length) := by
 obtain ⟨t, rfl⟩ := h
 simp
set_option maxRecDepth 100000 in
set_option maxHeartbeats 2000000 in
theorem highA_any : ∀ (d : Nat) (l : List Nd) (a : Nat) (A : Option Addr) (n c : Nat) (w : World), l.length = n -> n <= a + d -> a <= n -> n <= 1073741824 -> Sl w w.heap.size 7 A n (cosC l) -> n <= c -> (∀ x ∈ l, x.ok) ->
  Calls Tryz.prog 46 #[.slice A n c, .int .i64 a] w fun e w' => HiA n (hiF d (l.drop a)) w e w' := by
 intro d
 induction d with
 | zero =>
  intro l a A n c w hn h1 ha h2 h3 h4 h5
  obtain rfl : a = n := by omega
  have hnil : l.drop a = [] := List.drop_of_length_le (by omega)
  rw [hnil]
  have g1 : (a : Int) <= (a : Int) := Int.le_refl _
  clear hn h3 h5 hnil
  go_enter Tryz.func46, Tryz.ntmps46
  go_wp2_with fail
  go_ret3
  exact ⟨⟨_, rfl⟩, rfl⟩
 | succ d ih =>
  intro l a A n c w hn h1 ha h2 h3 h4 h5
  by_cases hend : a = n
  ·
   subst hend
   have hnil : l.drop a = [] := List.drop_of_length_le (by omega)
   rw [hnil]
   have g1 : (a : Int) <= (a : Int) := Int.le_refl _
   clear hn h3 h5 hnil ih
   go_enter Tryz.func46, Tryz.ntmps46
   go_wp2_with fail
   go_ret3
   exact ⟨⟨_, rfl⟩, rfl⟩
  have hlt : a < n := by omega
  obtain ⟨x, hx⟩ : ∃ x, l[a]? = some x := ⟨_, List.getElem?_eq_getElem (by omega)⟩
  have hdr : l.drop a = x :: l.drop (a + 1) := by
   rw [List.drop_eq_getElem_cons (List.getElem?_eq_some_iff.1 hx).1, (List.getElem?_eq_some_iff.1 hx).2]
  rw [hdr]
  obtain ⟨b, o, rfl, hb, hc⟩ := h3.at_ (by omega)
  have hop : w.cell? ⟨b, o + a * 7, none⟩ = some (.int .i8 x.op) := hc _ _ (by
   have := flat_at ndC 7 (fun _ => rfl) l a 0 x hx (by decide)
   rw [Nat.add_zero] at this; exact this)
  have hxo := h5 x (List.mem_of_getElem? hx)
  have HK := Lib.hid (fun W => kidsA_any x.op W hxo.1 hxo.2.1)
  obtain ⟨KN, hKN⟩ : ∃ q, kidsN x.op = q := ⟨_, rfl⟩
  rw [hKN] at HK
  have hst : n - (l.drop (a + 1)).length = a + 1 := by rw [List.length_drop, hn]; omega
  have HST := Lib.hid hst
  clear hst
  have HIH := Lib.hid (And.intro ih (And.intro hn (And.intro h5 (And.intro h3 hKN))))
  have hK2 : KN <= 2 := by rw [<- hKN]; unfold kidsN; split <;> (try split) <;> omega
  have g1 : ¬ ((n : Int) <= (a : Int)) := by omega
  have g2 : (a : Int) < (n : Int) := by omega
  clear ih hn h5 h3 hc hx hdr hKN hxo hend
  go_enter Tryz.func46, Tryz.ntmps46
  go_wp2_with fail
  go_loopg [7, 8, 9] KN (fun gg m r i wr => ∃ (k mm : Nat) (rr : List Nd), k <= KN /\ gg = KN - k /\ i = .int .i64 k /\ m = .int .i64 mm /\ r = .int .i64 (n - rr.length : Nat) /\ mm <= n /\ rr.length + a + 1 <= n /\
   Hid (rr <:+ l.drop (a + 1) /\ hiK (hiF d) (KN - k) mm rr = hiK (hiF d) KN 0 (l.drop (a + 1))) /\ wr = w)
  case atStart => exact ⟨0, 0, l.drop (a + 1), by omega, rfl, rfl, rfl, (by rw [HST.out]; go_num), by omega, by rw [List.length_drop, HIH.out.2.1]; omega, Lib.hid ⟨List.suffix_refl _, rfl⟩, rfl⟩
  case round =>
   obtain ⟨k, mm, rr, hk, rfl, rfl, rfl, rfl, hmm, hrl, HR, rfl⟩ := hrel
   by_cases hlk : k < KN
   ·
    obtain ⟨a2, ha2⟩ : ∃ a2, n - rr.length = a2 := ⟨_, rfl⟩
    have hrr : l.drop a2 = rr := by
     have h1 : rr <:+ l := HR.out.1.trans (List.drop_suffix _ _)
     have h2 := suf_drop h1
     rw [HIH.out.2.1, ha2] at h2; exact h2.symm
    have hcall := HIH.out.1 l a2 (some ⟨b, o, none⟩) n c wr HIH.out.2.1 (by omega) (by omega) h2 HIH.out.2.2.2.1 h4 HIH.out.2.2.1
    rw [hrr] at hcall
    have hks : KN - k = (KN - (k + 1)) + 1 := by omega
    have hval := HR.out.2
    rw [hks, hiK] at hval
    rw [ha2]
    rcases hf : hiF d rr with _ | ⟨h, r'⟩
    ·
     rw [hf] at hcall hval
     have HC := Lib.hid hcall
     have HV := Lib.hid (show hiF (d + 1) (x :: l.drop (a + 1)) = none by rw [hiF, HIH.out.2.2.2.2, <- hval])
     clear hcall hval hf hks hrr ha2
     go_wp2_with fail
     (refine (HK.out _).mono ?_); rintro ev w1 ⟨rfl, rfl⟩
     go_wp2_with fail
     (refine HC.out.mono ?_); rintro ev w2 ⟨⟨z, rfl⟩, rfl⟩
     go_wp2_with fail
     go_ret3
     rw [HV.out]
     exact ⟨⟨_, rfl⟩, rfl⟩
    ·
     rw [hf] at hcall hval
     obtain ⟨hle1, hle2⟩ := hiF_le d rr h r' hf
     have hsuf := hiF_suf d rr h r' hf
     have HC := Lib.hid hcall
     have HV := Lib.hid (And.intro hval hsuf)
     clear hcall hval hf hsuf hks hrr ha2
     go_wp2_with fail
     (refine (HK.out _).mono ?_); rintro ev w1 ⟨rfl, rfl⟩
     go_wp2_with fail
     (refine HC.out.mono ?_); rintro ev w2 ⟨rfl, rfl⟩
     go_wp2_with fail
     go_roundg (KN - (k + 1))
     case measure => omega
     case rel =>
      refine ⟨k + 1, max mm h, r', by omega, rfl, by go_num, ?_, rfl, by omega, by omega, Lib.hid ⟨HV.out.2.trans HR.out.1, HV.out.1⟩, rfl⟩
      simp
      omega
   ·
    obtain rfl : k = KN := by omega
    have hval := HR.out.2
    rw [Nat.sub_self, hiK] at hval
    have HV := Lib.hid (show hiF (d + 1) (x :: l.drop (a + 1)) = some (mm + 1, rr) by rw [hiF, HIH.out.2.2.2.2, <- hval])
    clear hval
    go_wp2_with fail
    (refine (HK.out _).mono ?_); rintro ev w1 ⟨rfl, rfl⟩
    go_wp2_with fail
    go_ret3
    rw [HV.out]
    exact ⟨rfl, rfl⟩
set_option maxRecDepth 100000 in
set_option maxHeartbeats 4000000 in
theorem sizeA_any (L : CoL) (w : World) (hs : szV L.code <= 9223372036854775807) (hCR : CR w L) :
  Calls Tryz.prog 16 #[.agg L.vals.toArray] w fun e w' => e = .returned (.int .i64 (szV L.code : Nat)) /\ Below w.heap.size w w' := by
 obtain ⟨A1, c1, e1, hc1, hd1, s1⟩ := hCR.f.sl
 obtain ⟨A2, c2, e2, hc2, hd2, s2⟩ := hCR.c.sl
 obtain ⟨A3, c3, e3, hc3, hd3, s3⟩ := hCR.n.sl
 obtain ⟨A4, c4, e4, hc4, hd4, s4⟩ := hCR.t.sl
 obtain ⟨A5, c5, e5, hc5, hd5, s5⟩ := hCR.y.sl
 obtain ⟨n1, hn1⟩ : ∃ n, L.fns.length = n := ⟨_, rfl⟩
 obtain ⟨n2, hn2⟩ : ∃ n, L.casts.length = n := ⟨_, rfl⟩
 obtain ⟨n3, hn3⟩ : ∃ n, L.nums.length = n := ⟨_, rfl⟩
 obtain ⟨n4, hn4⟩ : ∃ n, L.texts.length = n := ⟨_, rfl⟩
 obtain ⟨n5, hn5⟩ : ∃ n, L.types.length = n := ⟨_, rfl⟩
 rw [show L.vals.toArray = #[.slice A1 n1 c1, .slice A2 n2 c2, .slice A3 n3 c3, .slice A4 n4 c4, .slice A5 n5 c5] by unfold CoL.vals; rw [e1, e2, e3, e4, e5, hn1, hn2, hn3, hn4, hn5]]
 have m1 : n1 <= 9223372036854775807 := by unfold maxLen at hd1; omega
 have HF := Lib.hid (And.intro hCR.fe hCR.fc)
 have HN := Lib.hid hn1
 rw [hn1] at s1
 have HS := Lib.hid s1
 have HZ := Lib.hid hs
 obtain ⟨g0, hg0⟩ : ∃ x, w.heap.size = x := ⟨_, rfl⟩
 obtain ⟨W1, hW1⟩ : ∃ W1, w.alloc (.cells #[.slice A1 n1 c1, .slice A2 n2 c2, .slice A3 n3 c3, .slice A4 n4 c4, .slice A5 n5 c5] 27) = W1 := ⟨_, rfl⟩
 have hb1 : Below w.heap.size w W1 := by rw [<- hW1]; exact bal b0 _
 have k1 : Blk W1 g0 27 #[.slice A1 n1 c1, .slice A2 n2 c2, .slice A3 n3 c3, .slice A4 n4 c4, .slice A5 n5 c5] := by rw [<- hW1, <- hg0]; exact Blk.new w _ _
 have HX := Lib.hid (show ∀ W, Below W1.heap.size W1 W -> Below w.heap.size w W /\ W.cell? ⟨g0, 0, none⟩ = some (.slice A1 n1 c1) from fun W hw => ⟨bl hb1 hw, ((k1.below hw k1.lt).cell 0).trans rfl⟩)
 clear hCR s1 s2 s3 s4 s5 e1 e2 e3 e4 e5 hn1 hn2 hn3 hn4 hn5 hd1 hd2 hd3 hd4 hd5 hc1 hc2 hc3 hc4 hc5 hb1 k1
 go_enter Tryz.func16, Tryz.ntmps16
 go_upto_region 1 with fail
 clear hW1 hg0
 go_wp2_with fail
 go_loopg [3, 4] n1 (fun gg z i wr => ∃ k S : Nat, k <= n1 /\ gg = n1 - k /\ i = .int .i64 k /\ z = .int .i64 S /\ Hid (((L.fns.take k).map fun g => g.f.code.length).sum = S /\ Below W1.heap.size W1 wr))
 case atStart => exact ⟨0, 0, by omega, rfl, rfl, rfl, Lib.hid ⟨rfl, Below.refl _ _⟩⟩
 case round =>
  obtain ⟨k, S, hk, rfl, rfl, rfl, HR⟩ := hrel
  obtain ⟨hbw, x0⟩ := HX.out wr HR.out.2
  by_cases hlt : k < n1
  ·
   obtain ⟨g, hx⟩ : ∃ g, L.fns[k]? = some g := ⟨_, List.getElem?_eq_getElem (by rw [HN.out]; exact hlt)⟩
   obtain ⟨b, o, rfl, hblt, hcell⟩ := HS.out.at_ (by omega)
   obtain ⟨Ac, cc, ecv, hcc, hcd, sco⟩ := (HF.out.2 g (List.mem_of_getElem? hx)).sl
   obtain ⟨Q, hQ⟩ : ∃ Q, g.f.code.length = Q := ⟨_, rfl⟩
   rw [hQ] at ecv
   have hc3 : wr.cell? ⟨b, o + k * 4 + 3, none⟩ = some (.slice Ac Q cc) := by
    rw [Nat.add_assoc]
    exact (hbw.cell (p := ⟨b, o + (k * 4 + 3), none⟩) hblt).trans (hcell _ _ (by rw [flat_at FuL.cells 4 (fun _ => rfl) _ _ _ _ hx (by decide)]; show some g.cv = _; rw [ecv]))
   have hnext : ((L.fns.take (k + 1)).map fun g => g.f.code.length).sum = S + Q := by rw [List.take_add_one, hx, List.map_append, List.sum_append, HR.out.1]; simp [hQ]
   have hle : S + Q <= 9223372036854775807 := by
    have h1 : ((L.fns.take (k + 1)).map fun g => g.f.code.length).sum + ((L.fns.drop (k + 1)).map fun g => g.f.code.length).sum = szV L.code := by
     rw [<- List.sum_append, <- List.map_append, List.take_append_drop]; simp only [szV, CoL.code, List.map_map]; rfl
    have := HZ.out
    omega
   have HX := Lib.hid hnext
   clear hx hblt hcell hQ ecv hcc hcd sco hnext
   go_wp2_with fail
   go_roundg (n1 - (k + 1))
   case measure => omega
   case rel => exact ⟨k + 1, S + Q, by omega, rfl, by go_num, by go_num, Lib.hid ⟨HX.out, HR.out.2⟩⟩
  ·
   obtain rfl : k = n1 := by omega
   have hz : S = szV L.code := by
    rw [<- HR.out.1, <- HN.out, List.take_length]; simp only [szV, CoL.code, List.map_map]; rfl
   have HZ2 := Lib.hid hz
   clear hz
   go_wp2_with fail
   go_ret
   rw [<- HZ2.out]
   exact ⟨rfl, hbw⟩
set_option maxRecDepth 100000 in
set_option maxHeartbeats 4000000 in
theorem heightA_any (L : CoL) (w : World) (hok : L.code.ok) (hlc : ∀ g ∈ L.casts, g.w.co.length <= 1073741824) (hCR : CR w L) :
  Calls Tryz.prog 14 #[.agg L.vals.toArray] w fun e w' => e = .returned (.int .i64 (heV L.code : Nat)) /\ Below w.heap.size w w' := by
 obtain ⟨A1, c1, e1, hc1, hd1, s1⟩ := hCR.f.sl
 obtain ⟨A2, c2, e2, hc2, hd2, s2⟩ := hCR.c.sl
 obtain ⟨A3, c3, e3, hc3, hd3, s3⟩ := hCR.n.sl
 obtain ⟨A4, c4, e4, hc4, hd4, s4⟩ := hCR.t.sl
 obtain ⟨A5, c5, e5, hc5, hd5, s5⟩ := hCR.y.sl
 obtain ⟨n1, hn1⟩ : ∃ n, L.fns.length = n := ⟨_, rfl⟩
 obtain ⟨n2, hn2⟩ : ∃ n, L.casts.length = n := ⟨_, rfl⟩
 obtain ⟨n3, hn3⟩ : ∃ n, L.nums.length = n := ⟨_, rfl⟩
 obtain ⟨n4, hn4⟩ : ∃ n, L.texts.length = n := ⟨_, rfl⟩
 obtain ⟨n5, hn5⟩ : ∃ n, L.types.length = n := ⟨_, rfl⟩
 rw [show L.vals.toArray = #[.slice A1 n1 c1, .slice A2 n2 c2, .slice A3 n3 c3, .slice A4 n4 c4, .slice A5 n5 c5] by unfold CoL.vals; rw [e1, e2, e3, e4, e5, hn1, hn2, hn3, hn4, hn5]]
 have m2 : n2 <= 9223372036854775807 := by unfold maxLen at hd2; omega
 have HF := Lib.hid hCR.co
 have HN := Lib.hid hn2
 rw [hn2] at s2
 have HS := Lib.hid s2
 have HO := Lib.hid (And.intro hok hlc)
 obtain ⟨g0, hg0⟩ : ∃ x, w.heap.size = x := ⟨_, rfl⟩
 obtain ⟨W1, hW1⟩ : ∃ W1, w.alloc (.cells #[.slice A1 n1 c1, .slice A2 n2 c2, .slice A3 n3 c3, .slice A4 n4 c4, .slice A5 n5 c5] 27) = W1 := ⟨_, rfl⟩
 have hb1 : Below w.heap.size w W1 := by rw [<- hW1]; exact bal b0 _
 have k1 : Blk W1 g0 27 #[.slice A1 n1 c1, .slice A2 n2 c2, .slice A3 n3 c3, .slice A4 n4 c4, .slice A5 n5 c5] := by rw [<- hW1, <- hg0]; exact Blk.new w _ _
 have HX := Lib.hid (show ∀ W, Below W1.heap.size W1 W -> Below w.heap.size w W /\ W.cell? ⟨g0, 1, none⟩ = some (.slice A2 n2 c2) from fun W hw => ⟨bl hb1 hw, ((k1.below hw k1.lt).cell 1).trans rfl⟩)
 clear hCR s1 s2 s3 s4 s5 e1 e2 e3 e4 e5 hn1 hn2 hn3 hn4 hn5 hd1 hd2 hd3 hd4 hd5 hc1 hc2 hc3 hc4 hc5 hb1 k1 hok hlc
 go_enter Tryz.func14, Tryz.ntmps14
 go_upto_region 1 with fail
 clear hW1 hg0
 go_wp2_with fail
 go_loopg [3, 4] n2 (fun gg z i wr => ∃ k S : Nat, k <= n2 /\ gg = n2 - k /\ i = .int .i64 k /\ z = .int .i64 S /\ Hid (heV ⟨[], (L.casts.take k).map (·.w), [], [], []⟩ = S /\ Below W1.heap.size W1 wr))
 case atStart => exact ⟨0, 0, by omega, rfl, rfl, rfl, Lib.hid ⟨rfl, Below.refl _ _⟩⟩
 case round =>
  obtain ⟨k, S, hk, rfl, rfl, rfl, HR⟩ := hrel
  obtain ⟨hbw, x0⟩ := HX.out wr HR.out.2
  by_cases hlt : k < n2
  ·
   obtain ⟨g, hx⟩ : ∃ g, L.casts[k]? = some g := ⟨_, List.getElem?_eq_getElem (by rw [HN.out]; exact hlt)⟩
   obtain ⟨b, o, rfl, hblt, hcell⟩ := HS.out.at_ (by omega)
   have hm := List.mem_of_getElem? hx
   obtain ⟨Ac, cc, ecv, hcc, hcd, sco⟩ := (HF.out g hm).sl
   obtain ⟨M, hM⟩ : ∃ M, g.w.co.length = M := ⟨_, rfl⟩
   have hokc : ∀ y ∈ g.w.co, y.ok := HO.out.1.2.1 g.w (by simp only [CoL.code, List.mem_map]; exact ⟨g, hm, rfl⟩)
   rw [hM] at sco hcc ecv
   have hMb : M <= 1073741824 := by rw [<- hM]; exact HO.out.2 g hm
   have HH := Lib.hid (highA_any M g.w.co 0 Ac M cc wr hM (by omega) (by omega) hMb ((sco.below hbw).more hbw.size) hcc hokc)
   rw [List.drop_zero] at HH
   have hc2 : wr.cell? ⟨b, o + k * 3 + 2, none⟩ = some (.slice Ac M cc) := by
    rw [Nat.add_assoc]
    exact (hbw.cell (p := ⟨b, o + (k * 3 + 2), none⟩) hblt).trans (hcell _ _ (by rw [flat_at WtL.cells 3 (fun _ => rfl) _ _ _ _ hx (by decide)]; show some g.cv = _; rw [ecv]))
   have hnext : heV ⟨[], (L.casts.take (k + 1)).map (·.w), [], [], []⟩ = heW g.w S := by
    rw [List.take_add_one, hx, <- HR.out.1]; simp [heV, List.foldl_append]
   obtain ⟨R, hR⟩ : ∃ R, hiF M g.w.co = R := ⟨_, rfl⟩
   have hw : heW g.w S = heS R S := by unfold heW; rw [hM, hR]
   rw [hw] at hnext
   have hle : ∀ h rr, R = some (h, rr) -> h <= M /\ rr.length < M := fun h rr hr => by have := hiF_le M g.w.co h rr (by rw [hR]; exact hr); omega
   rw [hR] at HH
   have HX2 := Lib.hid hnext
   have HLE := Lib.hid hle
   clear hx hblt hcell hM ecv hcc hcd sco hnext hw hokc hm hR hle
   rcases R with _ | ⟨h, rr⟩
   ·
    go_wp2_with fail
    (refine HH.out.mono ?_); rintro ev w2 ⟨⟨z, rfl⟩, rfl⟩
    go_wp2_with fail
    go_roundg (n2 - (k + 1))
    case measure => omega
    case rel => exact ⟨k + 1, S, by omega, rfl, by go_num, rfl, Lib.hid ⟨HX2.out, HR.out.2⟩⟩
   ·
    obtain ⟨l1, l2⟩ := HLE.out h rr rfl
    obtain ⟨q, hq⟩ : ∃ q, rr.length = q := ⟨_, rfl⟩
    cases rr with
    | nil =>
     go_wp2_with fail
     (refine HH.out.mono ?_); rintro ev w2 ⟨rfl, rfl⟩
     rw [List.length_nil, Nat.sub_zero]
     have e1 : ((M : Int) == (M : Int)) = true := by simp
     go_wp2_with fail
     go_roundg (n2 - (k + 1))
     case measure => omega
     case rel => exact ⟨k + 1, max S h, by omega, rfl, by go_num, (by simp; omega), Lib.hid ⟨HX2.out, HR.out.2⟩⟩
    | cons y rr =>
     obtain ⟨q2, hq2⟩ : ∃ q2, M - (y :: rr).length = q2 := ⟨_, rfl⟩
     have e1 : ((q2 : Int) == (M : Int)) = false := by simp only [List.length_cons] at *; simp; omega
     go_wp2_with fail
     (refine HH.out.mono ?_); rintro ev w2 ⟨rfl, rfl⟩
     rw [hq2]
     clear hq2 hq l2
     go_wp2_with fail
     go_roundg (n2 - (k + 1))
     case measure => omega
     case rel => exact ⟨k + 1, S, by omega, rfl, by go_num, rfl, Lib.hid ⟨HX2.out, HR.out.2⟩⟩
  ·
   obtain rfl : k = n2 := by omega
   have hz : S = heV L.code := by
    rw [<- HR.out.1, <- HN.out, List.take_length]; rfl
   have HZ2 := Lib.hid hz
   clear hz
   go_wp2_with fail
   go_ret
   rw [<- HZ2.out]
   exact ⟨rfl, hbw⟩
end Go.Proofs.YtobplngonkdbpaaGreatDoor.D
