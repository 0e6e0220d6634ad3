/- FaultNone returns true: the walk. -/
import Derived.Test.YtkebplifkkhhlaaDoorFltE
namespace Go.Proofs.YtkebplifkkhhlaaDoor.F
open Go.RowKit Go.Proofs.YtkebplifkkhhlaaDoor.B Go.Proofs.YtkebplifkkhhlaaDoor.La
set_option linter.unusedVariables false
set_option linter.unusedSimpArgs false

theorem fault0 : faultT 0 = ⟨#[102, 97, 117, 108, 116, 32, 48]⟩ := by
  have h : itoaS 0 = ⟨#[48]⟩ := by simp [itoaS, Lib.itoa, Lib.decDigits]
  simp only [faultT, h]
  decide

theorem wrap_some (d : ByteArray) (e : Er) (w : World) (hat : e.At w) (hno : e ≠ .no) :
    Calls Tryd.prog 25 #[.string d, e.val] w fun ev w' => ev = .returned (.iface 55 (.pointer (some ⟨w.heap.size, 0, none⟩))) ∧ (Er.inn w.heap.size d e).At w' ∧ Below w.heap.size w w' :=
  (wrap_any d e w hat).mono fun ev w' ⟨u, h1, h2, h3, _, h5⟩ => by
    obtain rfl := h5 hno
    exact ⟨h1, h2, h3⟩

set_option maxRecDepth 100000 in
set_option maxHeartbeats 8000000 in
theorem faultNone_walk (d : ByteArray) (c : Int) (w : World) (hd : d.size ≤ 4611686018427380000) (hc0 : -9223372036854775808 ≤ c) (hc1 : c ≤ 9223372036854775807) (hg : Han w) (ht : Tab w) :
    Calls Tryd.prog 5 #[.string d, .int .i64 c] w fun ev w' => ev = .returned (.bool true) ∧ Below w.heap.size w w' := by
  have HG := Lib.hid hg
  have HT := Lib.hid ht
  have HD := Lib.hid hd
  clear hg ht
  go_enter Tryd.func5, Tryd.ntmps5
  go_wp2_with fail
  (refine (erB_none _).mono ?_); rintro ev w1 ⟨rfl, rfl⟩
  go_wp2_with fail
  (refine (unB_none _).mono ?_); rintro ev w1 ⟨rfl, rfl⟩
  go_wp2_with fail
  (refine (erF_none _).mono ?_); rintro ev w1 ⟨rfl, rfl⟩
  go_wp2_with fail
  (refine (unF_none _).mono ?_); rintro ev w1 ⟨rfl, rfl⟩
  go_wp2_with fail
  (refine (erI_none _).mono ?_); rintro ev w1 ⟨rfl, rfl⟩
  go_wp2_with fail
  (refine (unI_none _).mono ?_); rintro ev w1 ⟨rfl, rfl⟩
  go_wp2_with fail
  (refine (new_any ⟨#[111, 116, 104, 101, 114]⟩ _).mono ?_); rintro ev w1 ⟨rfl, hb1⟩
  have HB1 := Lib.hid hb1
  clear hb1
  obtain ⟨W3, hW3⟩ : ∃ W3, (w1.alloc (.cells #[.string d, .nilIface] 59)).alloc (.cells #[.int .i64 0] 91) = W3 := ⟨_, rfl⟩
  have hb3 : Below w.heap.size w W3 := by rw [← hW3]; exact bal (bal HB1.out _) _
  have hIn : (Er.inn w1.heap.size d .no).At W3 := by rw [← hW3]; exact ⟨(Blk.new _ _ _).alloc _, trivial⟩
  have hFa : (Er.fa (w1.heap.size + 1) 0).At W3 := by rw [← hW3]; exact at_fa (by simp)
  have HB3 := Lib.hid hb3
  have HW3 := Lib.hid hW3
  have HIN := Lib.hid hIn
  have HFA := Lib.hid hFa
  have hnb := label_any .nb W3 (HG.out.below hb3) trivial
  have hwr := fun W => wrap_some d (.ot (some ⟨w.heap.size, 0, none⟩)) W trivial (by intro h; cases h)
  have hlo := fun (W : World) (hb : Below w.heap.size w W) g hat => label_any (.inn g d (.ot (some ⟨w.heap.size, 0, none⟩))) W (HG.out.below hb) hat
  have hdf := fun (W : World) (hb : Below W3.heap.size W3 W) => defs_any (.inn w1.heap.size d .no) W (Er.At.below (e := .inn w1.heap.size d .no) hb HIN.out) (by simp [Er.dep])
  have heI := fun (W : World) (hb : Below W3.heap.size W3 W) => erI_some .no w1.heap.size d W (Er.At.below (e := .inn w1.heap.size d .no) hb HIN.out) (HT.out.below (bl HB3.out hb)) ⟨trivial, by simp only [Er.tx, ByteArray.size_empty]; show d.size + 2 + 0 ≤ _; omega⟩
  have huI := fun (W : World) (hb : Below W3.heap.size W3 W) => unI_some w1.heap.size d .nilIface W (Er.At.below (e := .inn w1.heap.size d .no) hb HIN.out).1
  have huF := fun (W : World) (hb : Below W3.heap.size W3 W) => unF_some (w1.heap.size + 1) 0 W (Er.At.below (e := .fa (w1.heap.size + 1) 0) hb HFA.out)
  have heF := fun (W : World) (hb : Below W3.heap.size W3 W) => erF_some (w1.heap.size + 1) 0 W (Er.At.below (e := .fa (w1.heap.size + 1) 0) hb HFA.out) (HT.out.below (bl HB3.out hb)) (by omega) (by omega)
  simp only [Er.lab, Er.val, Er.tx, Er.defs, ba_nil, ptr', fault0, if_true, List.length_cons, List.length_nil, List.map_cons, List.map_nil, Nat.zero_add, Option.getD_none, Option.isSome_none] at hnb hwr hlo hdf heI huI huF heF
  clear hb3 hW3 hIn hFa
  have hW3 := HW3.out
  go_wp2_with fail
  (refine hnb.mono ?_); rintro ev w4 ⟨rfl, hb⟩
  have HB4 := Lib.hid hb
  clear hb hnb
  go_wp2_with fail
  (refine (hwr w4).mono ?_); rintro ev w5 ⟨rfl, hat, hb⟩
  have HA5 := Lib.hid hat
  have HB5 := Lib.hid (bl HB4.out hb)
  clear hb hat
  go_wp2_with fail
  (refine (hlo _ (bl HB3.out HB5.out) _ HA5.out).mono ?_); rintro ev w6 ⟨rfl, hb⟩
  have HB6 := Lib.hid (bl HB5.out hb)
  clear hb
  go_wp2_with fail
  (refine (hdf _ HB6.out).mono ?_); rintro ev w7 ⟨v, rfl, ho, hb⟩
  have HB7 := Lib.hid (bl HB6.out hb)
  have HO7 := Lib.hid ho
  clear hb
  obtain ⟨g, cap, cur, rfl, hbg, hgw, _⟩ : ∃ g cap cur, v = .slice (some ⟨g, 0, none⟩) 1 cap ∧ w6.heap.size ≤ g ∧ w7.cell? ⟨g, 0, none⟩ = some (.string d) ∧ cur = 0 := by
    rcases ho.2 with ⟨_, h⟩ | ⟨g, cap, cur, h1, h2, h3, _⟩
    · exact absurd h (by omega)
    · refine ⟨g, cap, 0, h1, h2, ?_, rfl⟩
      have := ho.cells (g := g) (by rw [h1]; rfl) 0 (.string d) rfl
      simpa [add_flat] using this
  have HC7 : Hid (∀ W, Below w7.heap.size w7 W → W.cell? ⟨g, 0, none⟩ = some (.string d)) := Lib.hid fun W hb => (hb.cell (p := ⟨g, 0, none⟩) (cell_lt hgw)).trans hgw
  clear ho hgw
  go_wp2_with fail
  (refine (heI _ HB7.out).mono ?_); rintro ev w8 ⟨rfl, hb⟩
  have HB8 := Lib.hid hb
  clear hb
  go_wp2_with fail
  (refine (huI _ (bl HB7.out HB8.out)).mono ?_); rintro ev wy ⟨rfl, rfl⟩
  go_wp2_with fail
  (refine (huF _ (bl HB7.out HB8.out)).mono ?_); rintro ev wy ⟨rfl, rfl⟩
  go_wp2_with fail
  (refine (heF _ (bl HB7.out HB8.out)).mono ?_); rintro ev w9 ⟨rfl, hb⟩
  have HB9 := Lib.hid (bl HB8.out hb)
  have l0 := HC7.out w9 HB9.out
  have HX := Lib.hid (bl (bl HB3.out HB7.out) HB9.out)
  clear hb hwr hlo hdf heI huI huF heF
  go_wp2_with fail
  have hk1 := code_any (.ot (some ⟨w.heap.size, 0, none⟩)) w9 (HG.out.below HX.out) trivial
  have hk2 := fun (W : World) (hb : Below w.heap.size w W) => code_any (.er c) W (HG.out.below hb) trivial
  have hw2 := fun (W : World) => wrap_some d (.er c) W trivial (by intro h; cases h)
  have hk3 := fun (W : World) (hb : Below w.heap.size w W) g hat => code_any (.inn g d (.er c)) W (HG.out.below hb) hat
  have hk4 := fun (W : World) (hb : Below w.heap.size w W) g g' hat => code_any (.inn g d (.fa g' 34)) W (HG.out.below hb) hat
  have hw3 := fun (W : World) => wrap_any d .no W trivial
  have hwk := fun (W : World) (hb : Below w.heap.size w W) => works_any W (HG.out.below hb) (HT.out.below hb)
  simp only [Er.code, Er.val, ptr', Option.getD_none, Option.getD_some, show ¬ ((34 : Int) = 0) by decide, if_false] at hk1 hk2 hw2 hk3 hk4
  (refine hk1.mono ?_); rintro ev wa ⟨rfl, hb⟩
  have HXa := Lib.hid (bl HX.out hb)
  clear hb hk1
  go_wp2_with fail
  (refine (hk2 _ HXa.out).mono ?_); rintro ev wb ⟨rfl, hb⟩
  have HXb := Lib.hid (bl HXa.out hb)
  clear hb hk2
  go_wp2_with fail
  (refine (hw2 _).mono ?_); rintro ev wc ⟨rfl, hat, hb⟩
  have HAc := Lib.hid hat
  have HXc := Lib.hid (bl HXb.out hb)
  clear hb hat hw2
  go_wp2_with fail
  (refine (hk3 _ HXc.out _ HAc.out).mono ?_); rintro ev we ⟨rfl, hb⟩
  have HXe := Lib.hid (bl HXc.out hb)
  clear hb hk3
  go_wp2_with fail
  have hat : (Er.inn (we.heap.size + 1) d (.fa we.heap.size 34)).At ((we.alloc (.cells #[.int .i64 34] 91)).alloc (.cells #[.string d, .iface 87 (.pointer (some ⟨we.heap.size, 0, none⟩))] 59)) :=
    ⟨by have := Blk.new (we.alloc (.cells #[.int .i64 34] 91)) 59 #[.string d, .iface 87 (.pointer (some ⟨we.heap.size, 0, none⟩))]; simpa [Er.val, ptr'] using this, Er.At.below (e := .fa we.heap.size 34) ((Below.refl _ _).alloc (Nat.le_refl _) _) (at_fa rfl)⟩
  (refine (hk4 _ (bal (bal HXe.out _) _) _ _ hat).mono ?_); rintro ev wf ⟨rfl, hb⟩
  have HXf := Lib.hid (bl (bal (bal HXe.out _) _) hb)
  clear hb hat hk4
  go_wp2_with fail
  (refine (hw3 _).mono ?_); rintro ev wg ⟨u, rfl, _, hb, hu, _⟩
  obtain rfl := hu trivial
  have HXg := Lib.hid (bl HXf.out hb)
  clear hb hu hw3
  simp only [Er.val]
  go_wp2_with fail
  (refine (hwk _ HXg.out).mono ?_); rintro ev wh ⟨rfl, hb⟩
  have HXh := Lib.hid (bl HXg.out hb)
  clear hb hwk
  go_wp2_with fail
  go_ret
  exact ⟨rfl, HXh.out⟩
end Go.Proofs.YtkebplifkkhhlaaDoor.F
