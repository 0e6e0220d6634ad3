/- Contracts: a type's words, by the program's pen. (Printed by gen_pen.py.) -/
import Derived.Test.YthonnpjlkcjoeaaGreatDoorPen
import Derived.Test.YthonnpjlkcjoeaaGreatDoorRdQ
import Derived.Test.YthonnpjlkcjoeaaGreatDoorTypC
namespace Go.Proofs.YthonnpjlkcjoeaaGreatDoor.T
open Go.RowKit Go.Proofs.YthonnpjlkcjoeaaGreatDoor.B
set_option linter.unusedSimpArgs false
set_option linter.unusedVariables false

structure St (B b : Nat) (bs : List Value) (w0 w : World) : Prop where
  at_ : PenAt B b bs w
  below : Below B w0 w
  kept : Lib.OthersKept U8 (some b) w0 w
  hB : B ≤ w0.heap.size
theorem St.ws {B b : Nat} {bs : List Value} {w0 w : World} (h : St B b bs w0 w) (s : ByteArray) (hlen : bs.length + s.size ≤ 1099511627776) :
    Calls Tryz.prog 54 #[ptr b, .string s] w fun e w' => e = .returned (.tuple #[.int .i64 s.size, .nilIface]) ∧ St B b (bs ++ Lib.strCells s) w0 w' := by
  refine (pen_write B b bs s w h.at_ (by omega) (Nat.le_trans h.hB h.below.size)).mono ?_
  rintro e w' ⟨rfl, h1, h2, h3⟩
  exact ⟨rfl, .inr h1, h.below.trans h2, h.kept.trans h3, h.hB⟩
theorem builder_later {T e : TypeId} {B b : Nat} {p : Value} {bs : List Value} {w w' : World} (h : Lib.BuilderAt T e B b p bs w) (hb : Below w.heap.size w w') : Lib.BuilderAt T e B b p bs w' := by
  have hlt := h.lt
  obtain ⟨hB, v, hk, hown, hne⟩ := h
  refine ⟨hB, v, ?_, hown.kept (row := some b) ⟨hb.os, hb.tape, hb.output, hb.size, fun k hk _ => hb.block k hk⟩ (Or.inr hne), hne⟩
  rw [hb.block b hlt]; exact hk
theorem St.later {B b : Nat} {bs : List Value} {w0 w w1 : World} (h : St B b bs w0 w) (hb : Below w.heap.size w w1) : St B b bs w0 w1 :=
  ⟨h.at_.elim (fun x => .inl (builder_later x hb)) (fun x => .inr (builder_later x hb)), h.below.trans ⟨hb.os, hb.tape, hb.output, hb.size, fun k hk => hb.block k (Nat.lt_of_lt_of_le hk (Nat.le_trans h.hB h.below.size))⟩, h.kept.below hb, h.hB⟩
theorem St.same {B b : Nat} {bs : List Value} {w0 w : World} (h : St B b bs w0 w) : St B b bs w w := ⟨h.at_, Below.refl _ _, Lib.OthersKept.refl _ _ _, Nat.le_trans h.hB h.below.size⟩
theorem St.back {B b : Nat} {bs cs : List Value} {w0 w w1 : World} (h : St B b bs w0 w) (k : St B b cs w w1) : St B b cs w0 w1 := ⟨k.at_, h.below.trans k.below, h.kept.trans k.kept, h.hB⟩
theorem St.lt {B b : Nat} {bs : List Value} {w0 w : World} (h : St B b bs w0 w) : b < w.heap.size := h.at_.elim (fun x => x.lt) (fun x => x.lt)

def PenC (f : Nat) (t : Ty) (x : List UInt8) : Prop := ∀ (B b : Nat) (bs : List Value) (w : World), St B b bs w w → bs.length + x.length ≤ 1099511627776 →
  Calls Tryz.prog f #[ptr b, .string (str t)] w fun e w' => e = .returned (.tuple #[]) ∧ St B b (bs ++ Lib.byteCells x) w w'

/-- A list of parts that nobody writes. -/
structure KidsAt (b : Nat) (v : Value) (ks : List Ty) (w : World) : Prop where
  row : ∃ (g cap : Nat) (cur : Array Value), v = .slice (some ⟨g, 0, none⟩) ks.length cap ∧ w.heap[g]? = some (.cells cur 9 (0, 0)) ∧ g ≠ b ∧ ∀ (i : Nat) (k : Ty), ks[i]? = some k → cur[i]? = some (strV k)
theorem kids_of {b : Nat} {v : Value} {ks : List Ty} {w w1 : World} (h : w1.ownsRow w.heap.size 9 1 v ks.length (ks.map strV)) (hb : b < w.heap.size) (hk : 0 < ks.length) : KidsAt b v ks w1 := by
  rcases h.2 with ⟨_, h0⟩ | ⟨g, cap, cur, hv, hg, hr, h1, h2, h3, h4⟩
  · omega
  · refine ⟨g, cap, cur, hv, hr, by omega, fun i k hi => ?_⟩
    have hi' : (ks.map strV)[i]? = some (strV k) := by simp [hi]
    rw [← h4, List.getElem?_take] at hi'
    split at hi'
    · simpa using hi'
    · cases hi'
theorem KidsAt.keep {b : Nat} {v : Value} {ks : List Ty} {w w' : World} (h : KidsAt b v ks w) (hk : Lib.OthersKept U8 (some b) w w') : KidsAt b v ks w' := by
  obtain ⟨g, cap, cur, hv, hr, hne, hc⟩ := h.row
  exact ⟨g, cap, cur, hv, hk g _ hr (by simpa using hne) (fun c fz e => by injection e with _ e2 _; exact absurd e2 (by decide)), hne, hc⟩
theorem bcat {bs : List Value} (a c : List UInt8) : bs ++ Lib.byteCells a ++ Lib.byteCells c = bs ++ Lib.byteCells (a ++ c) := by rw [Lib.byteCells_append, List.append_assoc]

theorem pen_leaf_facts (t : Ty) (c : UInt8) (hc : t.head = c) : ∃ s, str t = s ∧ ∃ h : 0 < s.size, s[0]'h = c := ⟨_, rfl, by rw [← hc]; exact str_head t⟩

set_option maxRecDepth 100000 in
/-- arm: in parentheses, if it is a function. -/
theorem pen_arm (t : Ty) (ih : PenC 29 t (wordsT t)) : PenC 55 t (wrapT t) := by
  intro B b bs w h hl
  unfold wrapT parW at hl ⊢
  obtain ⟨c, hc⟩ : ∃ c, t.head = c := ⟨_, rfl⟩
  obtain ⟨s, hs, hp0, hb0⟩ := pen_leaf_facts t c hc
  unfold PenC at ih
  rw [hs] at ih ⊢
  rw [hc] at hl ⊢
  by_cases h62 : c = 62
  · rw [if_pos (by simp [h62])] at hl ⊢
    simp only [List.length_cons, List.length_append, List.length_nil] at hl
    rw [h62] at hb0
    have H1 := Lib.hid (h.ws ⟨#[40]⟩ (by show _ + 1 ≤ _; omega))
    have HI := Lib.hid ih
    have HF : Hid (bs ++ Lib.strCells ⟨#[40]⟩ ++ Lib.byteCells (wordsT t) ++ Lib.strCells ⟨#[41]⟩ = bs ++ Lib.byteCells (40 :: (wordsT t ++ [41]))) := Lib.hid (by
      show bs ++ Lib.byteCells [40] ++ Lib.byteCells (wordsT t) ++ Lib.byteCells [41] = _
      rw [bcat, bcat]; rfl)
    clear ih h hs hc h62
    have hn := Lib.hid hl
    clear hl
    go_enter Tryz.func55, Tryz.ntmps55
    go_wp2_with fail
    refine H1.out.mono ?_
    rintro e w1 ⟨rfl, S1⟩
    have H2 := Lib.hid (HI.out B b _ w1 S1.same (by rw [List.length_append, Lib.strCells_length]; have := hn.out; show _ + 1 + _ ≤ _; omega))
    have HS := Lib.hid S1
    clear S1 H1 HI
    go_wp2_with fail
    refine H2.out.mono ?_
    rintro e w2 ⟨rfl, S2⟩
    have H3 := Lib.hid (S2.ws ⟨#[41]⟩ (by rw [List.length_append, List.length_append, Lib.strCells_length, Lib.byteCells_length]; have := hn.out; show _ + 1 + _ + 1 ≤ _; omega))
    clear S2 H2
    go_wp2_with fail
    refine H3.out.mono ?_
    rintro e w3 ⟨rfl, S3⟩
    have HE := Lib.hid (HS.out.back S3)
    clear S3 HS H3
    go_wp2_with fail
    go_end0
    exact ⟨rfl, by rw [← HF.out]; exact HE.out⟩
  · rw [if_neg (by simpa using h62)] at hl ⊢
    have hne : c.toNat ≠ 62 := fun e => h62 (UInt8.toNat_inj.1 e)
    have H1 := Lib.hid (ih B b bs w h hl)
    clear ih h hs hc h62 hl
    go_enter Tryz.func55, Tryz.ntmps55
    go_wp2_with fail
    refine H1.out.mono ?_
    rintro e w1 ⟨rfl, S1⟩
    have HE := Lib.hid S1
    clear S1 H1
    go_wp2_with fail
    exact bodyPost_ret (results_none (by simp [Tryz.results55]) _ _ _) rfl ⟨rfl, HE.out⟩

theorem St.wl {B b : Nat} {bs : List Value} {w0 w : World} (h : St B b bs w0 w) (s : ByteArray) (l : List UInt8) (hs : s = T.bs l) (hlen : bs.length + l.length ≤ 1099511627776) :
    Calls Tryz.prog 54 #[ptr b, .string s] w fun e w' => e = .returned (.tuple #[.int .i64 s.size, .nilIface]) ∧ St B b (bs ++ Lib.byteCells l) w0 w' := by
  subst hs
  have := h.ws (T.bs l) (by rw [bs_size]; exact hlen)
  rw [show Lib.strCells (T.bs l) = Lib.byteCells l by rw [Lib.strCells_eq, bs_list]] at this
  exact this

set_option maxRecDepth 100000 in
theorem pen_int (t : Ty) (ht : t.ok) (h64 : t.code.length ≤ 1099511627776) (hc : t.head = 105) (hk : t.kids = []) : PenC 29 t (([105, 110, 116] : List UInt8)) := by
  intro B b bs w h hl
  obtain ⟨s, hs, hp0, hb0⟩ := pen_leaf_facts t 105 hc
  simp only [List.length_append, List.length_cons, List.length_nil] at hl
  have HP := parts_any t w ht (by omega)
  rw [hk, hs] at HP
  rw [hs]
  have HP := Lib.hid HP
  have hn := Lib.hid hl
  have HB := Lib.hid h
  clear h hl hs hc hk ht h64
  go_enter Tryz.func29, Tryz.ntmps29
  go_wp2_with fail
  refine HP.out.mono ?_
  rintro e w1 ⟨v, rfl, hown, hb⟩
  have S0 := Lib.hid (HB.out.later hb)
  clear hown hb HP
  have C0 := Lib.hid (S0.out.same.wl ⟨#[105, 110, 116]⟩ [105, 110, 116] rfl (by (try simp only [List.length_append, Lib.byteCells_length, List.length_cons, List.length_nil]); have := hn.out; omega))
  go_wp2_with fail
  refine C0.out.mono ?_
  rintro e v0 ⟨rfl, T0⟩
  have R0 := Lib.hid T0
  clear T0 C0
  have HE := Lib.hid (S0.out.back R0.out)
  clear R0 S0
  go_wp2_with fail
  go_end0
  refine ⟨rfl, ?_⟩
  have := HE.out
  exact this

set_option maxRecDepth 100000 in
theorem pen_bool (t : Ty) (ht : t.ok) (h64 : t.code.length ≤ 1099511627776) (hc : t.head = 98) (hk : t.kids = []) : PenC 29 t (([98, 111, 111, 108] : List UInt8)) := by
  intro B b bs w h hl
  obtain ⟨s, hs, hp0, hb0⟩ := pen_leaf_facts t 98 hc
  simp only [List.length_append, List.length_cons, List.length_nil] at hl
  have HP := parts_any t w ht (by omega)
  rw [hk, hs] at HP
  rw [hs]
  have HP := Lib.hid HP
  have hn := Lib.hid hl
  have HB := Lib.hid h
  clear h hl hs hc hk ht h64
  go_enter Tryz.func29, Tryz.ntmps29
  go_wp2_with fail
  refine HP.out.mono ?_
  rintro e w1 ⟨v, rfl, hown, hb⟩
  have S0 := Lib.hid (HB.out.later hb)
  clear hown hb HP
  have C0 := Lib.hid (S0.out.same.wl ⟨#[98, 111, 111, 108]⟩ [98, 111, 111, 108] rfl (by (try simp only [List.length_append, Lib.byteCells_length, List.length_cons, List.length_nil]); have := hn.out; omega))
  go_wp2_with fail
  refine C0.out.mono ?_
  rintro e v0 ⟨rfl, T0⟩
  have R0 := Lib.hid T0
  clear T0 C0
  have HE := Lib.hid (S0.out.back R0.out)
  clear R0 S0
  go_wp2_with fail
  go_end0
  refine ⟨rfl, ?_⟩
  have := HE.out
  exact this

set_option maxRecDepth 100000 in
theorem pen_text (t : Ty) (ht : t.ok) (h64 : t.code.length ≤ 1099511627776) (hc : t.head = 116) (hk : t.kids = []) : PenC 29 t (([116, 101, 120, 116] : List UInt8)) := by
  intro B b bs w h hl
  obtain ⟨s, hs, hp0, hb0⟩ := pen_leaf_facts t 116 hc
  simp only [List.length_append, List.length_cons, List.length_nil] at hl
  have HP := parts_any t w ht (by omega)
  rw [hk, hs] at HP
  rw [hs]
  have HP := Lib.hid HP
  have hn := Lib.hid hl
  have HB := Lib.hid h
  clear h hl hs hc hk ht h64
  go_enter Tryz.func29, Tryz.ntmps29
  go_wp2_with fail
  refine HP.out.mono ?_
  rintro e w1 ⟨v, rfl, hown, hb⟩
  have S0 := Lib.hid (HB.out.later hb)
  clear hown hb HP
  have C0 := Lib.hid (S0.out.same.wl ⟨#[116, 101, 120, 116]⟩ [116, 101, 120, 116] rfl (by (try simp only [List.length_append, Lib.byteCells_length, List.length_cons, List.length_nil]); have := hn.out; omega))
  go_wp2_with fail
  refine C0.out.mono ?_
  rintro e v0 ⟨rfl, T0⟩
  have R0 := Lib.hid T0
  clear T0 C0
  have HE := Lib.hid (S0.out.back R0.out)
  clear R0 S0
  go_wp2_with fail
  go_end0
  refine ⟨rfl, ?_⟩
  have := HE.out
  exact this

set_option maxRecDepth 100000 in
theorem pen_any_ (t : Ty) (ht : t.ok) (h64 : t.code.length ≤ 1099511627776) (hc : t.head = 63) (hk : t.kids = []) : PenC 29 t (([63] : List UInt8)) := by
  intro B b bs w h hl
  obtain ⟨s, hs, hp0, hb0⟩ := pen_leaf_facts t 63 hc
  simp only [List.length_append, List.length_cons, List.length_nil] at hl
  have HP := parts_any t w ht (by omega)
  rw [hk, hs] at HP
  rw [hs]
  have HP := Lib.hid HP
  have hn := Lib.hid hl
  have HB := Lib.hid h
  clear h hl hs hc hk ht h64
  go_enter Tryz.func29, Tryz.ntmps29
  go_wp2_with fail
  refine HP.out.mono ?_
  rintro e w1 ⟨v, rfl, hown, hb⟩
  have S0 := Lib.hid (HB.out.later hb)
  clear hown hb HP
  have C0 := Lib.hid (S0.out.same.wl ⟨#[63]⟩ [63] rfl (by (try simp only [List.length_append, Lib.byteCells_length, List.length_cons, List.length_nil]); have := hn.out; omega))
  go_wp2_with fail
  refine C0.out.mono ?_
  rintro e v0 ⟨rfl, T0⟩
  have R0 := Lib.hid T0
  clear T0 C0
  have HE := Lib.hid (S0.out.back R0.out)
  clear R0 S0
  go_wp2_with fail
  go_end0
  refine ⟨rfl, ?_⟩
  have := HE.out
  exact this

set_option maxRecDepth 100000 in
theorem pen_fn (t : Ty) (a : Ty) (c : Ty) (ht : t.ok) (h64 : t.code.length ≤ 1099511627776) (hc : t.head = 62) (hk : t.kids = [a, c]) (H0 : PenC 55 a (wrapT a)) (H2 : PenC 29 c (wordsT c)) : PenC 29 t ((wrapT a) ++ ([32, 45, 62, 32] : List UInt8) ++ (wordsT c)) := by
  intro B b bs w h hl
  obtain ⟨s, hs, hp0, hb0⟩ := pen_leaf_facts t 62 hc
  simp only [List.length_append, List.length_cons, List.length_nil] at hl
  have HP := parts_any t w ht (by omega)
  rw [hk, hs] at HP
  rw [hs]
  have HP := Lib.hid HP
  have hn := Lib.hid hl
  have HB := Lib.hid h
  have G0 := Lib.hid H0
  have G2 := Lib.hid H2
  clear h hl hs hc hk ht h64 H0 H2
  go_enter Tryz.func29, Tryz.ntmps29
  go_wp2_with fail
  refine HP.out.mono ?_
  rintro e w1 ⟨v, rfl, hown, hb⟩
  have S0 := Lib.hid (HB.out.later hb)
  have HK := Lib.hid (kids_of hown HB.out.lt (by simp))
  obtain ⟨g, cap, cur, rfl, hr, hne, hcell⟩ := HK.out.row
  have q0 := hcell 0 a rfl
  have q1 := hcell 1 c rfl
  have HC : Hid (∀ W, Lib.OthersKept U8 (some b) w1 W → W.cell? ⟨g, 0, none⟩ = some (.string (str a)) ∧ W.cell? ⟨g, 1, none⟩ = some (.string (str c))) := Lib.hid fun W hw => by
    have h1 := hw g _ hr (by simpa using hne) (fun c fz e => by injection e with _ e2 _; exact absurd e2 (by decide))
    exact ⟨by rw [Lib.cell_of_heap h1]; exact q0, by rw [Lib.cell_of_heap h1]; exact q1⟩
  have k1 := HC.out w1 (Lib.OthersKept.refl _ _ _)
  obtain ⟨k1, k2⟩ := k1
  have hlen : ([a, c] : List Ty).length = 2 := rfl
  rw [hlen] at *
  clear hr hcell hlen q0 q1 HK
  obtain ⟨s0, hs0⟩ : ∃ x, str a = x := ⟨_, rfl⟩
  rw [hs0] at HC k1
  obtain ⟨s1, hs1⟩ : ∃ x, str c = x := ⟨_, rfl⟩
  rw [hs1] at HC k2
  have G0 := G0.out
  unfold PenC at G0
  rw [hs0] at G0
  have G0 := Lib.hid G0
  have G2 := G2.out
  unfold PenC at G2
  rw [hs1] at G2
  have G2 := Lib.hid G2
  clear hs0
  clear hs1
  clear hown hb HP
  have C0 := Lib.hid (G0.out B b _ _ S0.out.same (by (try simp only [List.length_append, Lib.byteCells_length, List.length_cons, List.length_nil]); have := hn.out; omega))
  go_wp2_with fail
  refine C0.out.mono ?_
  rintro e v0 ⟨rfl, T0⟩
  have R0 := Lib.hid T0
  have k1 := HC.out v0 R0.out.kept
  obtain ⟨k1, k2⟩ := k1
  clear T0 C0
  have C1 := Lib.hid (R0.out.wl ⟨#[32, 45, 62, 32]⟩ [32, 45, 62, 32] rfl (by (try simp only [List.length_append, Lib.byteCells_length, List.length_cons, List.length_nil]); have := hn.out; omega))
  go_wp2_with fail
  refine C1.out.mono ?_
  rintro e v1 ⟨rfl, T1⟩
  have R1 := Lib.hid T1
  have k1 := HC.out v1 R1.out.kept
  obtain ⟨k1, k2⟩ := k1
  clear T1 C1
  have C2 := Lib.hid (G2.out B b _ _ R1.out.same (by (try simp only [List.length_append, Lib.byteCells_length, List.length_cons, List.length_nil]); have := hn.out; omega))
  go_wp2_with fail
  refine C2.out.mono ?_
  rintro e v2 ⟨rfl, T2⟩
  have R2 := Lib.hid (R1.out.back T2)
  clear T2 C2
  have HE := Lib.hid (S0.out.back R2.out)
  clear R0 R1 R2 S0 HC
  go_wp2_with fail
  go_end0
  refine ⟨rfl, ?_⟩
  have := HE.out
  simp only [bcat] at this
  exact this

set_option maxRecDepth 100000 in
theorem pen_pair (t : Ty) (a : Ty) (c : Ty) (ht : t.ok) (h64 : t.code.length ≤ 1099511627776) (hc : t.head = 44) (hk : t.kids = [a, c]) (H1 : PenC 29 a (wordsT a)) (H3 : PenC 29 c (wordsT c)) : PenC 29 t (([40] : List UInt8) ++ (wordsT a) ++ ([44, 32] : List UInt8) ++ (wordsT c) ++ ([41] : List UInt8)) := by
  intro B b bs w h hl
  obtain ⟨s, hs, hp0, hb0⟩ := pen_leaf_facts t 44 hc
  simp only [List.length_append, List.length_cons, List.length_nil] at hl
  have HP := parts_any t w ht (by omega)
  rw [hk, hs] at HP
  rw [hs]
  have HP := Lib.hid HP
  have hn := Lib.hid hl
  have HB := Lib.hid h
  have G1 := Lib.hid H1
  have G3 := Lib.hid H3
  clear h hl hs hc hk ht h64 H1 H3
  go_enter Tryz.func29, Tryz.ntmps29
  go_wp2_with fail
  refine HP.out.mono ?_
  rintro e w1 ⟨v, rfl, hown, hb⟩
  have S0 := Lib.hid (HB.out.later hb)
  have HK := Lib.hid (kids_of hown HB.out.lt (by simp))
  obtain ⟨g, cap, cur, rfl, hr, hne, hcell⟩ := HK.out.row
  have q0 := hcell 0 a rfl
  have q1 := hcell 1 c rfl
  have HC : Hid (∀ W, Lib.OthersKept U8 (some b) w1 W → W.cell? ⟨g, 0, none⟩ = some (.string (str a)) ∧ W.cell? ⟨g, 1, none⟩ = some (.string (str c))) := Lib.hid fun W hw => by
    have h1 := hw g _ hr (by simpa using hne) (fun c fz e => by injection e with _ e2 _; exact absurd e2 (by decide))
    exact ⟨by rw [Lib.cell_of_heap h1]; exact q0, by rw [Lib.cell_of_heap h1]; exact q1⟩
  have k1 := HC.out w1 (Lib.OthersKept.refl _ _ _)
  obtain ⟨k1, k2⟩ := k1
  have hlen : ([a, c] : List Ty).length = 2 := rfl
  rw [hlen] at *
  clear hr hcell hlen q0 q1 HK
  obtain ⟨s0, hs0⟩ : ∃ x, str a = x := ⟨_, rfl⟩
  rw [hs0] at HC k1
  obtain ⟨s1, hs1⟩ : ∃ x, str c = x := ⟨_, rfl⟩
  rw [hs1] at HC k2
  have G1 := G1.out
  unfold PenC at G1
  rw [hs0] at G1
  have G1 := Lib.hid G1
  have G3 := G3.out
  unfold PenC at G3
  rw [hs1] at G3
  have G3 := Lib.hid G3
  clear hs0
  clear hs1
  clear hown hb HP
  have C0 := Lib.hid (S0.out.same.wl ⟨#[40]⟩ [40] rfl (by (try simp only [List.length_append, Lib.byteCells_length, List.length_cons, List.length_nil]); have := hn.out; omega))
  go_wp2_with fail
  refine C0.out.mono ?_
  rintro e v0 ⟨rfl, T0⟩
  have R0 := Lib.hid T0
  have k1 := HC.out v0 R0.out.kept
  obtain ⟨k1, k2⟩ := k1
  clear T0 C0
  have C1 := Lib.hid (G1.out B b _ _ R0.out.same (by (try simp only [List.length_append, Lib.byteCells_length, List.length_cons, List.length_nil]); have := hn.out; omega))
  go_wp2_with fail
  refine C1.out.mono ?_
  rintro e v1 ⟨rfl, T1⟩
  have R1 := Lib.hid (R0.out.back T1)
  have k1 := HC.out v1 R1.out.kept
  obtain ⟨k1, k2⟩ := k1
  clear T1 C1
  have C2 := Lib.hid (R1.out.wl ⟨#[44, 32]⟩ [44, 32] rfl (by (try simp only [List.length_append, Lib.byteCells_length, List.length_cons, List.length_nil]); have := hn.out; omega))
  go_wp2_with fail
  refine C2.out.mono ?_
  rintro e v2 ⟨rfl, T2⟩
  have R2 := Lib.hid T2
  have k1 := HC.out v2 R2.out.kept
  obtain ⟨k1, k2⟩ := k1
  clear T2 C2
  have C3 := Lib.hid (G3.out B b _ _ R2.out.same (by (try simp only [List.length_append, Lib.byteCells_length, List.length_cons, List.length_nil]); have := hn.out; omega))
  go_wp2_with fail
  refine C3.out.mono ?_
  rintro e v3 ⟨rfl, T3⟩
  have R3 := Lib.hid (R2.out.back T3)
  have k1 := HC.out v3 R3.out.kept
  obtain ⟨k1, k2⟩ := k1
  clear T3 C3
  have C4 := Lib.hid (R3.out.wl ⟨#[41]⟩ [41] rfl (by (try simp only [List.length_append, Lib.byteCells_length, List.length_cons, List.length_nil]); have := hn.out; omega))
  go_wp2_with fail
  refine C4.out.mono ?_
  rintro e v4 ⟨rfl, T4⟩
  have R4 := Lib.hid T4
  clear T4 C4
  have HE := Lib.hid (S0.out.back R4.out)
  clear R0 R1 R2 R3 R4 S0 HC
  go_wp2_with fail
  go_end0
  refine ⟨rfl, ?_⟩
  have := HE.out
  simp only [bcat] at this
  exact this

set_option maxRecDepth 100000 in
theorem pen_list (t : Ty) (a : Ty) (ht : t.ok) (h64 : t.code.length ≤ 1099511627776) (hc : t.head = 108) (hk : t.kids = [a]) (H1 : PenC 29 a (wordsT a)) : PenC 29 t (([91] : List UInt8) ++ (wordsT a) ++ ([93] : List UInt8)) := by
  intro B b bs w h hl
  obtain ⟨s, hs, hp0, hb0⟩ := pen_leaf_facts t 108 hc
  simp only [List.length_append, List.length_cons, List.length_nil] at hl
  have HP := parts_any t w ht (by omega)
  rw [hk, hs] at HP
  rw [hs]
  have HP := Lib.hid HP
  have hn := Lib.hid hl
  have HB := Lib.hid h
  have G1 := Lib.hid H1
  clear h hl hs hc hk ht h64 H1
  go_enter Tryz.func29, Tryz.ntmps29
  go_wp2_with fail
  refine HP.out.mono ?_
  rintro e w1 ⟨v, rfl, hown, hb⟩
  have S0 := Lib.hid (HB.out.later hb)
  have HK := Lib.hid (kids_of hown HB.out.lt (by simp))
  obtain ⟨g, cap, cur, rfl, hr, hne, hcell⟩ := HK.out.row
  have q0 := hcell 0 a rfl
  have HC : Hid (∀ W, Lib.OthersKept U8 (some b) w1 W → W.cell? ⟨g, 0, none⟩ = some (.string (str a))) := Lib.hid fun W hw => by
    have h1 := hw g _ hr (by simpa using hne) (fun c fz e => by injection e with _ e2 _; exact absurd e2 (by decide))
    exact by rw [Lib.cell_of_heap h1]; exact q0
  have k1 := HC.out w1 (Lib.OthersKept.refl _ _ _)
  have hlen : ([a] : List Ty).length = 1 := rfl
  rw [hlen] at *
  clear hr hcell hlen q0 HK
  obtain ⟨s0, hs0⟩ : ∃ x, str a = x := ⟨_, rfl⟩
  rw [hs0] at HC k1
  have G1 := G1.out
  unfold PenC at G1
  rw [hs0] at G1
  have G1 := Lib.hid G1
  clear hs0
  clear hown hb HP
  have C0 := Lib.hid (S0.out.same.wl ⟨#[91]⟩ [91] rfl (by (try simp only [List.length_append, Lib.byteCells_length, List.length_cons, List.length_nil]); have := hn.out; omega))
  go_wp2_with fail
  refine C0.out.mono ?_
  rintro e v0 ⟨rfl, T0⟩
  have R0 := Lib.hid T0
  have k1 := HC.out v0 R0.out.kept
  clear T0 C0
  have C1 := Lib.hid (G1.out B b _ _ R0.out.same (by (try simp only [List.length_append, Lib.byteCells_length, List.length_cons, List.length_nil]); have := hn.out; omega))
  go_wp2_with fail
  refine C1.out.mono ?_
  rintro e v1 ⟨rfl, T1⟩
  have R1 := Lib.hid (R0.out.back T1)
  have k1 := HC.out v1 R1.out.kept
  clear T1 C1
  have C2 := Lib.hid (R1.out.wl ⟨#[93]⟩ [93] rfl (by (try simp only [List.length_append, Lib.byteCells_length, List.length_cons, List.length_nil]); have := hn.out; omega))
  go_wp2_with fail
  refine C2.out.mono ?_
  rintro e v2 ⟨rfl, T2⟩
  have R2 := Lib.hid T2
  clear T2 C2
  have HE := Lib.hid (S0.out.back R2.out)
  clear R0 R1 R2 S0 HC
  go_wp2_with fail
  go_end0
  refine ⟨rfl, ?_⟩
  have := HE.out
  simp only [bcat] at this
  exact this

set_option maxRecDepth 100000 in
theorem pen_box (t : Ty) (a : Ty) (ht : t.ok) (h64 : t.code.length ≤ 1099511627776) (hc : t.head = 120) (hk : t.kids = [a]) (H1 : PenC 55 a (wrapT a)) : PenC 29 t (([98, 111, 120, 32] : List UInt8) ++ (wrapT a)) := by
  intro B b bs w h hl
  obtain ⟨s, hs, hp0, hb0⟩ := pen_leaf_facts t 120 hc
  simp only [List.length_append, List.length_cons, List.length_nil] at hl
  have HP := parts_any t w ht (by omega)
  rw [hk, hs] at HP
  rw [hs]
  have HP := Lib.hid HP
  have hn := Lib.hid hl
  have HB := Lib.hid h
  have G1 := Lib.hid H1
  clear h hl hs hc hk ht h64 H1
  go_enter Tryz.func29, Tryz.ntmps29
  go_wp2_with fail
  refine HP.out.mono ?_
  rintro e w1 ⟨v, rfl, hown, hb⟩
  have S0 := Lib.hid (HB.out.later hb)
  have HK := Lib.hid (kids_of hown HB.out.lt (by simp))
  obtain ⟨g, cap, cur, rfl, hr, hne, hcell⟩ := HK.out.row
  have q0 := hcell 0 a rfl
  have HC : Hid (∀ W, Lib.OthersKept U8 (some b) w1 W → W.cell? ⟨g, 0, none⟩ = some (.string (str a))) := Lib.hid fun W hw => by
    have h1 := hw g _ hr (by simpa using hne) (fun c fz e => by injection e with _ e2 _; exact absurd e2 (by decide))
    exact by rw [Lib.cell_of_heap h1]; exact q0
  have k1 := HC.out w1 (Lib.OthersKept.refl _ _ _)
  have hlen : ([a] : List Ty).length = 1 := rfl
  rw [hlen] at *
  clear hr hcell hlen q0 HK
  obtain ⟨s0, hs0⟩ : ∃ x, str a = x := ⟨_, rfl⟩
  rw [hs0] at HC k1
  have G1 := G1.out
  unfold PenC at G1
  rw [hs0] at G1
  have G1 := Lib.hid G1
  clear hs0
  clear hown hb HP
  have C0 := Lib.hid (S0.out.same.wl ⟨#[98, 111, 120, 32]⟩ [98, 111, 120, 32] rfl (by (try simp only [List.length_append, Lib.byteCells_length, List.length_cons, List.length_nil]); have := hn.out; omega))
  go_wp2_with fail
  refine C0.out.mono ?_
  rintro e v0 ⟨rfl, T0⟩
  have R0 := Lib.hid T0
  have k1 := HC.out v0 R0.out.kept
  clear T0 C0
  have C1 := Lib.hid (G1.out B b _ _ R0.out.same (by (try simp only [List.length_append, Lib.byteCells_length, List.length_cons, List.length_nil]); have := hn.out; omega))
  go_wp2_with fail
  refine C1.out.mono ?_
  rintro e v1 ⟨rfl, T1⟩
  have R1 := Lib.hid (R0.out.back T1)
  clear T1 C1
  have HE := Lib.hid (S0.out.back R1.out)
  clear R0 R1 S0 HC
  go_wp2_with fail
  go_end0
  refine ⟨rfl, ?_⟩
  have := HE.out
  simp only [bcat] at this
  exact this
end Go.Proofs.YthonnpjlkcjoeaaGreatDoor.T
