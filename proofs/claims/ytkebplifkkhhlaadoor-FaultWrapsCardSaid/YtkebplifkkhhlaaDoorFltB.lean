/- Contracts: the texts of the program's errors. -/
import Derived.Test.YtkebplifkkhhlaaDoorFltA
import Derived.Test.YtkebplifkkhhlaaDoorErrT
import Derived.Test.YtkebplifkkhhlaaDoorShelf
import Derived.Lib.ItoaLen
import Derived.Lib.AppendIntMem
import Derived.Deep.RegionWith
namespace Go.Proofs.YtkebplifkkhhlaaDoor.F
open Go.RowKit Go.Proofs.YtkebplifkkhhlaaDoor.B Go.Proofs.YtkebplifkkhhlaaDoor.La
set_option linter.unusedVariables false
set_option linter.unusedSimpArgs false

/-- The table that Itoa reads stands. -/
abbrev Tab (w : World) : Prop := Lib.TabBelow Tryd.prog w.heap.size w "internal/strconv.uint64pow10" .u64 Lib.pow10Tab
theorem Tab.below {w w' : World} (h : Tab w) (hb : Below w.heap.size w w') : Tab w' := fun W hW => h W (hb.trans (hW.mono hb.size))
def itoaS (n : Int) : ByteArray := ⟨(Lib.itoa n).toArray⟩
theorem itoaS_size (n : Int) (h0 : -9223372036854775808 ≤ n) (h1 : n ≤ 9223372036854775807) : (itoaS n).size ≤ 21 := by
  have := Lib.itoa_length_le n h0 h1
  simpa [itoaS, ByteArray.size] using this
theorem itoa_any (n : Int) (W : World) (h0 : -9223372036854775808 ≤ n) (h1 : n ≤ 9223372036854775807) (ht : Tab W) :
    Calls Tryd.prog 62 #[.int .i64 n] W fun e w' => e = .returned (.string (itoaS n)) ∧ Below W.heap.size W w' :=
  (Tryd.strconv_Itoa n h0 h1 W (ht W (Below.refl _ _))).mono fun e w' ⟨h, k, os, hw⟩ => ⟨h, by rw [hw]; exact Lib.below_grow _ W (Nat.le_refl _) k os⟩
theorem fmt_any (n : Int) (W : World) (h0 : -9223372036854775808 ≤ n) (h1 : n ≤ 9223372036854775807) (ht : Tab W) :
    Calls Tryd.prog 61 #[.int .i64 n, .int .i64 10] W fun e w' => e = .returned (.string (itoaS n)) ∧ Below W.heap.size W w' :=
  (Tryd.strconv_FormatInt_10 n h0 h1 W (ht W (Below.refl _ _))).mono fun e w' ⟨h, k, os, hw⟩ => ⟨h, by rw [hw]; exact Lib.below_grow _ W (Nat.le_refl _) k os⟩

def blameT (n : Int) (nm : ByteArray) : ByteArray := ⟨#[98, 108, 97, 109, 101, 32]⟩ ++ itoaS n ++ ⟨#[32]⟩ ++ nm
def faultT (c : Int) : ByteArray := ⟨#[102, 97, 117, 108, 116, 32]⟩ ++ itoaS c
def Er.tx : Er → ByteArray
  | .bl _ n _ nm => blameT n nm
  | .fa _ c => faultT c
  | .inn _ d r => d ++ ⟨#[58, 32]⟩ ++ r.tx
  | _ => ⟨#[]⟩

theorem erB_none (w : World) : Calls Tryd.prog 33 #[.pointer none] w fun e w' => e = .returned (.string ⟨#[]⟩) ∧ w = w' := by
  go_enter Tryd.func33, Tryd.ntmps33
  go_wp2_with fail
  go_ret
  exact ⟨rfl, rfl⟩
theorem erF_none (w : World) : Calls Tryd.prog 35 #[.pointer none] w fun e w' => e = .returned (.string ⟨#[]⟩) ∧ w = w' := by
  go_enter Tryd.func35, Tryd.ntmps35
  go_wp2_with fail
  go_ret
  exact ⟨rfl, rfl⟩
theorem erI_none (w : World) : Calls Tryd.prog 37 #[.pointer none] w fun e w' => e = .returned (.string ⟨#[]⟩) ∧ w = w' := by
  go_enter Tryd.func37, Tryd.ntmps37
  go_wp2_with fail
  go_ret
  exact ⟨rfl, rfl⟩

theorem erF_some (a : Nat) (c : Int) (w : World) (h : Blk w a 91 #[.int .i64 c]) (ht : Tab w) (h0 : -9223372036854775808 ≤ c) (h1 : c ≤ 9223372036854775807) :
    Calls Tryd.prog 35 #[ptr' a] w fun e w' => e = .returned (.string (faultT c)) ∧ Below w.heap.size w w' := by
  have c0 := h.cell 0
  simp only [List.getElem?_toArray, List.getElem?_cons_zero] at c0
  have hit := itoa_any c w h0 h1 ht
  have hs := itoaS_size c h0 h1
  unfold ptr' faultT
  go_enter Tryd.func35, Tryd.ntmps35
  go_wp2_with fail
  (refine hit.mono ?_); rintro ev w1 ⟨rfl, hb⟩
  go_wp2_with fail
  go_ret
  exact ⟨rfl, hb⟩

set_option maxRecDepth 100000 in
theorem erB_some (a : Nat) (n : Int) (s : Site) (nm : ByteArray) (w : World) (h : (Er.bl a n s nm).At w) (ht : Tab w) (h0 : -9223372036854775808 ≤ n) (h1 : n ≤ 9223372036854775807) (hn : nm.size ≤ 140737488351232) :
    Calls Tryd.prog 33 #[ptr' a] w fun e w' => e = .returned (.string (blameT n nm)) ∧ Below w.heap.size w w' := by
  have h' : Blk w a 128 #[.int .i64 n, .string s.mo, .string s.ex, .int .i64 s.li, .int .i64 s.co, .int .i64 s.ru, .string nm] := h
  have c0 := h'.cell 0
  have c6 := h'.cell 6
  simp only [List.getElem?_toArray, List.getElem?_cons_zero, List.getElem?_cons_succ] at c0 c6
  have HF : Hid (∀ W, Below w.heap.size w W → W.cell? ⟨a, 0, none⟩ = some (.int .i64 n) ∧ W.cell? ⟨a, 6, none⟩ = some (.string nm)) :=
    Lib.hid fun W hb => ⟨(hb.cell (p := ⟨a, 0, none⟩) h'.lt).trans c0, (hb.cell (p := ⟨a, 6, none⟩) h'.lt).trans c6⟩
  have hfm := fun (W : World) (hb : Below w.heap.size w W) => fmt_any n W h0 h1 (ht.below hb)
  have hs := itoaS_size n h0 h1
  unfold ptr' blameT
  clear h h'
  go_enter Tryd.func33, Tryd.ntmps33
  go_wp2_with fail
  go_region_with (go_at_call 61; refine (hfm _ (by first | exact Below.refl _ _ | exact (Below.refl _ _).drew)).mono ?_; rintro e w1 ⟨rfl, hb0⟩; have hb1 : Below w.heap.size w w1 := (by first | exact hb0 | exact Below.trans (Below.refl _ _).drew hb0); obtain ⟨f1, f2⟩ := HF.out w1 hb1)
  all_goals
    go_wp2_with fail
    go_ret
    exact ⟨rfl, by first | exact hb1 | exact hb1.drew⟩
/-- A chain that tells its text. -/
def Er.tells : Er → Prop
  | .bl _ n _ nm => -9223372036854775808 ≤ n ∧ n ≤ 9223372036854775807 ∧ nm.size ≤ 140737488351232
  | .fa _ c => -9223372036854775808 ≤ c ∧ c ≤ 9223372036854775807
  | .inn _ d r => r.tells ∧ d.size + 2 + r.tx.size ≤ 4611686018427387904
  | .er _ => False
  | .ot _ => False
  | _ => True

theorem ba_nil (s : ByteArray) : s ++ ⟨#[]⟩ = s := by
  apply ByteArray.ext; simp

set_option maxRecDepth 100000 in
set_option maxHeartbeats 2000000 in
theorem erI_some (r : Er) : ∀ (a : Nat) (d : ByteArray) (w : World), (Er.inn a d r).At w → Tab w → (Er.inn a d r).tells →
    Calls Tryd.prog 37 #[ptr' a] w fun e w' => e = .returned (.string (Er.inn a d r).tx) ∧ Below w.heap.size w w' := by
  induction r with
  | no =>
    intro a d w hat ht htl
    obtain ⟨h, hr⟩ := hat
    obtain ⟨hts, hsz⟩ := htl
    have c0 := h.cell 0
    have c1 := h.cell 1
    simp only [List.getElem?_toArray, List.getElem?_cons_zero, List.getElem?_cons_succ] at c0 c1
    have HF : Hid (∀ W, Below w.heap.size w W → W.cell? ⟨a, 0, none⟩ = some (.string d) ∧ W.cell? ⟨a, 1, none⟩ = some (Er.val (Er.no))) :=
      Lib.hid fun W hb => ⟨(hb.cell (p := ⟨a, 0, none⟩) h.lt).trans c0, (hb.cell (p := ⟨a, 1, none⟩) h.lt).trans c1⟩
    simp only [Er.val, Er.tx, ba_nil, ptr'] at *
    clear h hr HF
    go_enter Tryd.func37, Tryd.ntmps37
    go_wp2_with fail
    go_ret
    exact ⟨rfl, Below.refl _ _⟩
  | bl b n s nm =>
    intro a d w hat ht htl
    obtain ⟨h, hr⟩ := hat
    obtain ⟨hts, hsz⟩ := htl
    have c0 := h.cell 0
    have c1 := h.cell 1
    simp only [List.getElem?_toArray, List.getElem?_cons_zero, List.getElem?_cons_succ] at c0 c1
    have HF : Hid (∀ W, Below w.heap.size w W → W.cell? ⟨a, 0, none⟩ = some (.string d) ∧ W.cell? ⟨a, 1, none⟩ = some (Er.val (Er.bl b n s nm))) :=
      Lib.hid fun W hb => ⟨(hb.cell (p := ⟨a, 0, none⟩) h.lt).trans c0, (hb.cell (p := ⟨a, 1, none⟩) h.lt).trans c1⟩
    have hm := methodErB
    have hfm : ∀ W, Below w.heap.size w W → Calls Tryd.prog 33 #[ptr' b] W fun e w' => e = .returned (.string (Er.tx (Er.bl b n s nm))) ∧ Below W.heap.size W w' := fun W hb => erB_some b n s nm W (Er.At.below hb hr) (ht.below hb) hts.1 hts.2.1 hts.2.2
    obtain ⟨X, hX⟩ : ∃ X, Er.tx (Er.bl b n s nm) = X := ⟨_, rfl⟩
    have ht1 : (Er.inn a d (Er.bl b n s nm)).tx = d ++ ⟨#[58, 32]⟩ ++ X := by rw [← hX]; rfl
    rw [ht1]
    rw [hX] at hfm hsz
    simp only [Er.val, ptr'] at *
    clear h hr hts ht1 hX
    go_enter Tryd.func37, Tryd.ntmps37
    go_wp2_with fail
    go_region_with (go_at_call 33; refine (hfm _ (by first | exact Below.refl _ _ | exact (Below.refl _ _).drew)).mono ?_; rintro e w1 ⟨rfl, hb0⟩; have hb1 : Below w.heap.size w w1 := (by first | exact hb0 | exact Below.trans (Below.refl _ _).drew hb0); obtain ⟨f1, f2⟩ := HF.out w1 hb1)
    all_goals
      go_wp2_with fail
      go_ret
      exact ⟨rfl, by first | exact hb1 | exact hb1.drew⟩
  | nb =>
    intro a d w hat ht htl
    obtain ⟨h, hr⟩ := hat
    obtain ⟨hts, hsz⟩ := htl
    have c0 := h.cell 0
    have c1 := h.cell 1
    simp only [List.getElem?_toArray, List.getElem?_cons_zero, List.getElem?_cons_succ] at c0 c1
    have HF : Hid (∀ W, Below w.heap.size w W → W.cell? ⟨a, 0, none⟩ = some (.string d) ∧ W.cell? ⟨a, 1, none⟩ = some (Er.val (Er.nb))) :=
      Lib.hid fun W hb => ⟨(hb.cell (p := ⟨a, 0, none⟩) h.lt).trans c0, (hb.cell (p := ⟨a, 1, none⟩) h.lt).trans c1⟩
    have hm := methodErB
    have hfm : ∀ W, Below w.heap.size w W → Calls Tryd.prog 33 #[.pointer none] W fun e w' => e = .returned (.string (Er.tx (Er.nb))) ∧ Below W.heap.size W w' := fun W hb => (erB_none W).mono fun e w' ⟨h1, h2⟩ => ⟨h1, h2 ▸ Below.refl _ _⟩
    obtain ⟨X, hX⟩ : ∃ X, Er.tx (Er.nb) = X := ⟨_, rfl⟩
    have ht1 : (Er.inn a d (Er.nb)).tx = d ++ ⟨#[58, 32]⟩ ++ X := by rw [← hX]; rfl
    rw [ht1]
    rw [hX] at hfm hsz
    simp only [Er.val, ptr'] at *
    clear h hr hts ht1 hX
    go_enter Tryd.func37, Tryd.ntmps37
    go_wp2_with fail
    go_region_with (go_at_call 33; refine (hfm _ (by first | exact Below.refl _ _ | exact (Below.refl _ _).drew)).mono ?_; rintro e w1 ⟨rfl, hb0⟩; have hb1 : Below w.heap.size w w1 := (by first | exact hb0 | exact Below.trans (Below.refl _ _).drew hb0); obtain ⟨f1, f2⟩ := HF.out w1 hb1)
    all_goals
      go_wp2_with fail
      go_ret
      exact ⟨rfl, by first | exact hb1 | exact hb1.drew⟩
  | fa b c =>
    intro a d w hat ht htl
    obtain ⟨h, hr⟩ := hat
    obtain ⟨hts, hsz⟩ := htl
    have c0 := h.cell 0
    have c1 := h.cell 1
    simp only [List.getElem?_toArray, List.getElem?_cons_zero, List.getElem?_cons_succ] at c0 c1
    have HF : Hid (∀ W, Below w.heap.size w W → W.cell? ⟨a, 0, none⟩ = some (.string d) ∧ W.cell? ⟨a, 1, none⟩ = some (Er.val (Er.fa b c))) :=
      Lib.hid fun W hb => ⟨(hb.cell (p := ⟨a, 0, none⟩) h.lt).trans c0, (hb.cell (p := ⟨a, 1, none⟩) h.lt).trans c1⟩
    have hm := methodErF
    have hfm : ∀ W, Below w.heap.size w W → Calls Tryd.prog 35 #[ptr' b] W fun e w' => e = .returned (.string (Er.tx (Er.fa b c))) ∧ Below W.heap.size W w' := fun W hb => erF_some b c W (Er.At.below (e := .fa b c) hb hr) (ht.below hb) hts.1 hts.2
    obtain ⟨X, hX⟩ : ∃ X, Er.tx (Er.fa b c) = X := ⟨_, rfl⟩
    have ht1 : (Er.inn a d (Er.fa b c)).tx = d ++ ⟨#[58, 32]⟩ ++ X := by rw [← hX]; rfl
    rw [ht1]
    rw [hX] at hfm hsz
    simp only [Er.val, ptr'] at *
    clear h hr hts ht1 hX
    go_enter Tryd.func37, Tryd.ntmps37
    go_wp2_with fail
    go_region_with (go_at_call 35; refine (hfm _ (by first | exact Below.refl _ _ | exact (Below.refl _ _).drew)).mono ?_; rintro e w1 ⟨rfl, hb0⟩; have hb1 : Below w.heap.size w w1 := (by first | exact hb0 | exact Below.trans (Below.refl _ _).drew hb0); obtain ⟨f1, f2⟩ := HF.out w1 hb1)
    all_goals
      go_wp2_with fail
      go_ret
      exact ⟨rfl, by first | exact hb1 | exact hb1.drew⟩
  | er n => intro a d w hat ht htl; exact absurd htl.1 id
  | ot v => intro a d w hat ht htl; exact absurd htl.1 id
  | inn b d' r ih =>
    intro a d w hat ht htl
    obtain ⟨h, hr⟩ := hat
    obtain ⟨hts, hsz⟩ := htl
    have c0 := h.cell 0
    have c1 := h.cell 1
    simp only [List.getElem?_toArray, List.getElem?_cons_zero, List.getElem?_cons_succ] at c0 c1
    have HF : Hid (∀ W, Below w.heap.size w W → W.cell? ⟨a, 0, none⟩ = some (.string d) ∧ W.cell? ⟨a, 1, none⟩ = some (Er.val (Er.inn b d' r))) :=
      Lib.hid fun W hb => ⟨(hb.cell (p := ⟨a, 0, none⟩) h.lt).trans c0, (hb.cell (p := ⟨a, 1, none⟩) h.lt).trans c1⟩
    have hm := methodErI
    have hfm : ∀ W, Below w.heap.size w W → Calls Tryd.prog 37 #[ptr' b] W fun e w' => e = .returned (.string (Er.tx (Er.inn b d' r))) ∧ Below W.heap.size W w' := fun W hb => ih b d' W (Er.At.below hb hr) (ht.below hb) hts
    obtain ⟨X, hX⟩ : ∃ X, Er.tx (Er.inn b d' r) = X := ⟨_, rfl⟩
    have ht1 : (Er.inn a d (Er.inn b d' r)).tx = d ++ ⟨#[58, 32]⟩ ++ X := by rw [← hX]; rfl
    rw [ht1]
    rw [hX] at hfm hsz
    simp only [Er.val, ptr'] at *
    clear h hr hts ht1 hX ih
    go_enter Tryd.func37, Tryd.ntmps37
    go_wp2_with fail
    go_region_with (go_at_call 37; refine (hfm _ (by first | exact Below.refl _ _ | exact (Below.refl _ _).drew)).mono ?_; rintro e w1 ⟨rfl, hb0⟩; have hb1 : Below w.heap.size w w1 := (by first | exact hb0 | exact Below.trans (Below.refl _ _).drew hb0); obtain ⟨f1, f2⟩ := HF.out w1 hb1)
    all_goals
      go_wp2_with fail
      go_ret
      exact ⟨rfl, by first | exact hb1 | exact hb1.drew⟩

set_option maxRecDepth 100000 in
/-- text, of a chain. -/
theorem text_any (e : Er) (w : World) (hat : e.At w) (ht : Tab w) (htl : e.tells) :
    Calls Tryd.prog 19 #[e.val] w fun ev w' => ev = .returned (.string e.tx) ∧ Below w.heap.size w w' := by
  cases e with
  | er n => exact absurd htl id
  | ot v => exact absurd htl id
  | no =>
    simp only [Er.val, Er.tx]
    have t1 := taNB
    have t2 := taNF
    have t3 := taNI
    go_enter Tryd.func19, Tryd.ntmps19
    go_wp2_with fail
    go_ret
    exact ⟨rfl, Below.refl _ _⟩
  | bl a n s nm =>
    have t1 := taBB
    have t2 := taBF
    have t3 := taBI
    have hf := erB_some a n s nm w hat ht htl.1 htl.2.1 htl.2.2
    obtain ⟨X, hX⟩ : ∃ X, (Er.bl a n s nm).tx = X := ⟨_, rfl⟩
    have hf2 : Calls Tryd.prog 33 #[ptr' a] w fun ev w' => ev = .returned (.string (Er.tx (.bl a n s nm))) ∧ Below w.heap.size w w' := hf
    rw [hX] at hf2 ⊢
    simp only [Er.val, ptr'] at *
    clear hX hf hat ht htl
    go_enter Tryd.func19, Tryd.ntmps19
    go_wp2_with fail
    (refine hf2.mono ?_); rintro ev w1 ⟨rfl, hb⟩
    go_wp2_with fail
    go_ret
    exact ⟨rfl, hb⟩
  | nb =>
    have t1 := taBB
    have t2 := taBF
    have t3 := taBI
    have hf : Calls Tryd.prog 33 #[.pointer none] w fun ev w' => ev = .returned (.string ⟨#[]⟩) ∧ Below w.heap.size w w' := (erB_none w).mono fun e w' ⟨h1, h2⟩ => ⟨h1, h2 ▸ Below.refl _ _⟩
    obtain ⟨X, hX⟩ : ∃ X, (Er.nb).tx = X := ⟨_, rfl⟩
    have hf2 : Calls Tryd.prog 33 #[.pointer none] w fun ev w' => ev = .returned (.string (Er.tx (.nb))) ∧ Below w.heap.size w w' := hf
    rw [hX] at hf2 ⊢
    simp only [Er.val, ptr'] at *
    clear hX hf hat ht htl
    go_enter Tryd.func19, Tryd.ntmps19
    go_wp2_with fail
    (refine hf2.mono ?_); rintro ev w1 ⟨rfl, hb⟩
    go_wp2_with fail
    go_ret
    exact ⟨rfl, hb⟩
  | fa a c =>
    have t1 := taFB
    have t2 := taFF
    have t3 := taFI
    have hf := erF_some a c w hat ht htl.1 htl.2
    obtain ⟨X, hX⟩ : ∃ X, (Er.fa a c).tx = X := ⟨_, rfl⟩
    have hf2 : Calls Tryd.prog 35 #[ptr' a] w fun ev w' => ev = .returned (.string (Er.tx (.fa a c))) ∧ Below w.heap.size w w' := hf
    rw [hX] at hf2 ⊢
    simp only [Er.val, ptr'] at *
    clear hX hf hat ht htl
    go_enter Tryd.func19, Tryd.ntmps19
    go_wp2_with fail
    (refine hf2.mono ?_); rintro ev w1 ⟨rfl, hb⟩
    go_wp2_with fail
    go_ret
    exact ⟨rfl, hb⟩
  | inn a d r =>
    have t1 := taIB
    have t2 := taIF
    have t3 := taII
    have hf := erI_some r a d w hat ht htl
    obtain ⟨X, hX⟩ : ∃ X, (Er.inn a d r).tx = X := ⟨_, rfl⟩
    have hf2 : Calls Tryd.prog 37 #[ptr' a] w fun ev w' => ev = .returned (.string (Er.tx (.inn a d r))) ∧ Below w.heap.size w w' := hf
    rw [hX] at hf2 ⊢
    simp only [Er.val, ptr'] at *
    clear hX hf hat ht htl
    go_enter Tryd.func19, Tryd.ntmps19
    go_wp2_with fail
    (refine hf2.mono ?_); rintro ev w1 ⟨rfl, hb⟩
    go_wp2_with fail
    go_ret
    exact ⟨rfl, hb⟩
end Go.Proofs.YtkebplifkkhhlaaDoor.F
