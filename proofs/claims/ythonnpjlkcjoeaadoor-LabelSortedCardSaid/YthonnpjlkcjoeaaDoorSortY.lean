/- LabelSorted's walk. -/
import Derived.Test.YthonnpjlkcjoeaaDoorSortW
import Derived.Test.YthonnpjlkcjoeaaDoorSortX
import Derived.Test.YthonnpjlkcjoeaaDoorLabelW
import Derived.Test.YthonnpjlkcjoeaaDoorLabelC
import Derived.Test.YthonnpjlkcjoeaaDoorWide
import Derived.Test.YthonnpjlkcjoeaaDoorBagA
import Derived.Test.YthonnpjlkcjoeaaDoorBagUI
import Derived.Test.YthonnpjlkcjoeaaDoorBagV
namespace Go.Proofs.YthonnpjlkcjoeaaDoor.La
open Go.RowKit Go.Proofs.YthonnpjlkcjoeaaDoor.B
set_option linter.unusedSimpArgs false
set_option linter.unusedVariables false

theorem int_cell {w : World} {l : List Int} {A : Option Addr} (hA : Sl w w.heap.size 1 A l.length (l.map (Value.int .i64))) {k : Nat} {s : Int} (hs : l[k]? = some s) : ∃ b o, A = some ⟨b, o, none⟩ ∧ b < w.heap.size ∧ w.cell? ⟨b, o + k, none⟩ = some (.int .i64 s) := by
  obtain ⟨b, o, rfl, hlt, hc⟩ := hA.at_ (by have := (List.getElem?_eq_some_iff.1 hs).1; omega)
  exact ⟨b, o, rfl, hlt, hc k _ (by simp [hs])⟩
theorem eqInts_any (l : List Int) (A A' : Option Addr) (c c' : Nat) (w : World) (hl : l.length ≤ 2147483647) (hA : Sl w w.heap.size 1 A l.length (l.map (Value.int .i64))) (hA' : Sl w w.heap.size 1 A' l.length (l.map (Value.int .i64))) :
    Calls Tryd.prog 26 #[.slice A l.length c, .slice A' l.length c'] w fun e w' => e = .returned (.bool true) ∧ Below w.heap.size w w' := by
  go_enter Tryd.func26, Tryd.ntmps26
  go_wp2_with fail
  go_loopg [5] l.length (fun g i wr => ∃ k : Nat, k ≤ l.length ∧ g = l.length - k ∧ i = .int .i64 k ∧ ∃ m, wr = w.drewN m)
  case atStart => exact ⟨0, by omega, rfl, rfl, 0, rfl⟩
  case round =>
    obtain ⟨k, hk, rfl, rfl, m, rfl⟩ := hrel
    by_cases h1 : k < l.length
    · obtain ⟨s, hs⟩ : ∃ s, l[k]? = some s := ⟨_, List.getElem?_eq_getElem h1⟩
      obtain ⟨bb, o, rfl, hbb, c0⟩ := int_cell hA hs
      obtain ⟨bb', o', rfl, hbb', d0⟩ := int_cell hA' hs
      go_wp2_with fail
      go_quiet (fail)
      go_wp2_with fail
      go_roundg (l.length - (k + 1))
      case measure => omega
      case rel => exact ⟨k + 1, by omega, rfl, by go_num, m + nq, rfl⟩
    · go_wp2_with fail
      go_ret
      exact ⟨rfl, below_drewN (Below.refl _ _) _⟩

/-- A list of labels of one's own. -/
def OwnI (w : World) (base : Nat) (v : Value) (l : List Nat) : Prop := w.ownsRow base 3 1 v l.length (l.map vI)
theorem owni_below {w w' : World} {base : Nat} {v : Value} {l : List Nat} (h : OwnI w base v l) (hb : Below w.heap.size w w') : OwnI w' base v l := own_below h hb
theorem eq_owni {w : World} {b1 b2 : Nat} {A A' : Option Addr} {l : List Nat} {c c' : Nat} (hl : l.length ≤ 2048) (h : OwnI w b1 (.slice A l.length c) l) (h' : OwnI w b2 (.slice A' l.length c') l) :
    Calls Tryd.prog 26 #[.slice A l.length c, .slice A' l.length c'] w fun e w' => e = .returned (.bool true) ∧ Below w.heap.size w w' := by
  obtain ⟨A1, c1, h1, _, _, s1⟩ := Sl.of_own h
  obtain ⟨A2, c2, h2, _, _, s2⟩ := Sl.of_own h'
  injection h1 with e1 _ e2
  injection h2 with e3 _ e4
  subst e1 e2 e3 e4
  have e : l.map vI = (l.map fun (k : Nat) => (k : Int)).map (Value.int .i64) := by rw [List.map_map]; rfl
  rw [e] at s1 s2
  have hn : l.length = (l.map fun (k : Nat) => (k : Int)).length := by simp
  rw [hn] at s1 s2 ⊢
  exact eqInts_any _ _ _ _ _ w (by simp; omega) s1 s2

set_option maxRecDepth 100000 in
set_option maxHeartbeats 2000000 in
theorem labelSorted_any (l : List Site) (A : Option Addr) (c : Nat) (w : World) (hl : l.length ≤ 9223372036854775807 / 56) (hsz : ∀ s ∈ l, s.mo.size ≤ 140737488351232 ∧ s.ex.size ≤ 140737488351232) (hA : Sl w w.heap.size 5 A l.length (cells l)) :
    Calls Tryd.prog 4 #[.slice A l.length c] w fun e w' => e = .returned (.bool true) ∧ Below w.heap.size w w' := by
  have hA1 : ∀ W, Below w.heap.size w W → Sl W W.heap.size 5 A l.length (cells l) := fun W hb => (hA.below hb).more hb.size
  have HA := Lib.hid hA1
  have HW := Lib.hid (wideS_any l A c w hl hsz hA)
  unfold WideS at HW
  have hbl : (byIns (siteOf l) l.length).length = l.length := byIns_len _ _
  obtain ⟨M, hM⟩ : ∃ M, byIns (siteOf l) l.length = M := ⟨_, rfl⟩
  have hso : ∀ (W : World) (A' : Option Addr) (c' : Nat), l.length ≤ 2048 → Sl W W.heap.size 5 A' l.length (cells l) → Calls Tryd.prog 24 #[.slice A' l.length c'] W fun e w' => ∃ v, e = .returned v ∧ OwnI w' W.heap.size v M ∧ Below W.heap.size W w' := by
    intro W A' c' h1 h2
    refine (sorted_any l A' c' W h1 h2).mono ?_
    rintro e w' ⟨v, rfl, ho, hb⟩
    exact ⟨v, rfl, by unfold OwnI; rw [← hM, hbl]; exact ho, hb⟩
  have hsr : ∀ (W : World) (A' : Option Addr) (c' : Nat), l.length ≤ 2048 → Sl W W.heap.size 5 A' l.length (cells l) → Calls Tryd.prog 25 #[.slice A' l.length c'] W fun e w' => ∃ v, e = .returned v ∧ OwnI w' W.heap.size v M ∧ Below W.heap.size W w' := by
    intro W A' c' h1 h2
    refine (sortedR_any l A' c' W h1 h2).mono ?_
    rintro e w' ⟨v, rfl, ho, hb⟩
    exact ⟨v, rfl, by unfold OwnI; rw [← hM, hbl]; exact ho, hb⟩
  have hML : M.length = l.length := by rw [← hM]; exact hbl
  have HSO := Lib.hid hso
  have HSR := Lib.hid hsr
  have HML := Lib.hid hML
  clear hM hbl hso hsr hML hA hA1
  go_enter Tryd.func4, Tryd.ntmps4
  go_wp2_with fail
  refine HW.out.mono ?_
  rintro e w0 ⟨b, rfl, hsm, hb0⟩
  cases b
  · obtain ⟨h2048, _⟩ := hsm rfl
    have hM2 : M.length ≤ 2048 := by have := HML.out; omega
    go_wp2_with fail
    refine (wideSites_any l A c w0 h2048 (HA.out w0 hb0)).mono ?_
    rintro e w1 ⟨rfl, hr, hb1⟩
    obtain ⟨g, hg⟩ : ∃ g, w0.heap.size = g := ⟨_, rfl⟩
    rw [hg] at hr ⊢
    have hc1 := bl hb0 hb1
    have hg1 := hr.lt
    have HR := Lib.hid hr
    clear hr
    go_wp2_with fail
    refine (HSO.out w1 _ _ h2048 (wide_sl HR.out)).mono ?_
    rintro e w2 ⟨va, rfl, oa, hb2⟩
    have ia := In.of_own oa
    obtain ⟨Aa, ca, rfl, _, _⟩ := own_shape oa
    have HR := Lib.hid (HR.out.of_block (hb2.block _ HR.out.lt))
    have OA := Lib.hid oa
    have hc2 := bl hc1 hb2
    clear oa
    go_wp2_with fail
    refine (HSO.out w2 _ _ h2048 (wide_sl HR.out)).mono ?_
    rintro e w3 ⟨vb, rfl, ob, hb3⟩
    have ib := In.of_own ob
    obtain ⟨Ab, cb, rfl, _, _⟩ := own_shape ob
    have HR := Lib.hid (HR.out.of_block (hb3.block _ HR.out.lt))
    have OA := Lib.hid (owni_below OA.out hb3)
    have OB := Lib.hid ob
    have hc3 := bl hc2 hb3
    clear ob
    go_wp2_with fail
    refine (HSR.out w3 _ _ h2048 (HA.out w3 hc3)).mono ?_
    rintro e w4 ⟨vm, rfl, om, hb4⟩
    obtain ⟨Am, cm, rfl, _, _⟩ := own_shape om
    have HR := Lib.hid (HR.out.of_block (hb4.block _ HR.out.lt))
    have OA := Lib.hid (owni_below OA.out hb4)
    have OB := Lib.hid (owni_below OB.out hb4)
    have OM := Lib.hid om
    have hc4 := bl hc3 hb4
    clear om
    go_wp2_with fail
    refine (eq_owni hM2 OA.out OM.out).mono ?_
    rintro e w5 ⟨rfl, hb5⟩
    have HR := Lib.hid (HR.out.of_block (hb5.block _ HR.out.lt))
    have OA := Lib.hid (owni_below OA.out hb5)
    have OB := Lib.hid (owni_below OB.out hb5)
    have OM := Lib.hid (owni_below OM.out hb5)
    have hc5 := bl hc4 hb5
    go_wp2_with fail
    refine (eq_owni hM2 OB.out OM.out).mono ?_
    rintro e w6 ⟨rfl, hb6⟩
    have HR := Lib.hid (HR.out.of_block (hb6.block _ HR.out.lt))
    have OA := Lib.hid (owni_below OA.out hb6)
    have OB := Lib.hid (owni_below OB.out hb6)
    have hc6 := bl hc5 hb6
    clear OM
    go_wp2_with fail
    refine (eqSites_any l _ A _ c w6 (by omega) (wide_sl HR.out) (HA.out w6 hc6)).mono ?_
    rintro e w7 ⟨rfl, hb7⟩
    have HR := Lib.hid (HR.out.of_block (hb7.block _ HR.out.lt))
    have OA := Lib.hid (owni_below OA.out hb7)
    have OB := Lib.hid (owni_below OB.out hb7)
    have hc7 := bl hc6 hb7
    go_wp2_with fail
    have hwh := whole_sl HR.out
    rw [whole_len] at hwh
    refine (spareSites_any l none g w7 h2048 hwh).mono ?_
    rintro e w8 ⟨rfl, hb8⟩
    have HR := Lib.hid (HR.out.of_block (hb8.block _ HR.out.lt))
    have OA := Lib.hid (owni_below OA.out hb8)
    have OB := Lib.hid (owni_below OB.out hb8)
    have hc8 := bl hc7 hb8
    have z1 := hb1.size
    have z2 := hb2.size
    have z3 := hb3.size
    have z4 := hb4.size
    have z5 := hb5.size
    have z6 := hb6.size
    have z7 := hb7.size
    have z8 := hb8.size
    have z0 := hb0.size
    have hglt := HR.out.lt
    clear hb1 hb2 hb3 hb4 hb5 hb6 hb7 hb8 hc2 hc3 hc4 hc5 hc6 hc7 hwh
    go_wp2_with fail
    have hr0 := bag_new w8 64
    have hg0 : Below w8.heap.size w8 (w8.alloc (.cells bagCells 64)) := Below.alloc (Below.refl _ _) (Nat.le_refl _) _
    refine (addInts_any w8.heap.size (w8.heap.size + 1) 0 (fun _ => nilV) [] Aa _ ca _ hr0 (World.ownsRow_nil _ _ _ _) (by omega) (by omega) (by simp)).mono ?_
    rintro e u1 ⟨rfl, f1, hr1, hf1, ho1, hd1⟩
    have hgg1 := hg0.trans hd1
    go_wp2_with fail
    refine (addInts_any w8.heap.size (w8.heap.size + 1) 1 f1 _ Ab _ cb _ hr1 ho1 (by omega) (by omega) (by have := hr1.lt; omega)).mono ?_
    rintro e u2 ⟨rfl, f2, hr2, hf2, ho2, hd2⟩
    have hgg2 := hgg1.trans hd2
    go_wp2_with fail
    have hall := below_from hc8 hgg2 hc8.size
    have hz : w8.heap.size + 1 ≤ u2.heap.size := by have := hr2.lt; omega
    have Ra := own_keep (own_less OA.out (base' := w.heap.size) (by omega)) hgg2 (fun b hb => by have := ia b hb; omega)
    have Rb := own_keep (own_less OB.out (base' := w.heap.size) (by omega)) hgg2 (fun b hb => by have := ib b hb; omega)
    have hA := apart_ints w8.heap.size w.heap.size 2 f2 (fun m => [Value.slice Aa M.length ca, .slice Ab M.length cb].getD m nilV) (fun m => [M.length, M.length].getD m 0) u2 hr2
      (fun k hk => by rw [hf2 k hk, hf1 k hk]) ho2 (by omega) (by omega) (fin2 ⟨_, Ra⟩ ⟨_, Rb⟩)
      (fin2 (fun b hb => by have := ia b hb; omega) (fun b hb => by have := ib b hb; omega)) (ap2 (ia.ap ib (by omega)))
      (fin2 (by show M.length ≤ _; omega) (by show M.length ≤ _; omega)) (by omega)
    have hCB : ∀ k, (∃ m, m < 2 ∧ ([Value.slice Aa M.length ca, .slice Ab M.length cb].getD m nilV).ownBlock = some k) → w1.heap.size ≤ k := by
      rintro k ⟨m, hm, e⟩
      rcases m with _|_|m
      · have := (ia k e).1; omega
      · have := (ib k e).1; omega
      · omega
    have hru : u2.rowIs g 31 ((l.length + 64) * 5) (fun j => (cells (whole l)).getD j default) := HR.out.of_block (hgg2.block _ hglt)
    have HRU := Lib.hid hru
    have HAA := Lib.hid hA
    have HCB := Lib.hid hCB
    clear hA hCB Ra Rb hf1 hf2 ho1 ho2 hr1 hr2 hr0 hru HR
    refine HAA.out.mono ?_
    rintro e u3 ⟨rfl, hbut⟩
    have hb15 : Below w.heap.size w u3 := hall.trans (hbut.below (by omega) fun k hk => by have := HCB.out k hk; omega)
    have hru3 := HRU.out.of_block (hbut.block g HRU.out.lt fun hk => by have := HCB.out g hk; omega)
    have HR3 := Lib.hid hru3
    clear hbut HAA HCB hru3 HRU
    go_wp2_with fail
    refine (eqSites_any l _ A _ c u3 (by omega) (wide_sl HR3.out) (HA.out u3 hb15)).mono ?_
    rintro e u4 ⟨rfl, hb16⟩
    go_wp2_with fail
    refine (lives_any _).mono ?_
    rintro e u5 ⟨rfl, hb17⟩
    go_wp2_with fail
    go_ret
    exact ⟨rfl, bl (bl hb15 hb16) hb17⟩
  · go_wp2_with fail
    refine (lives_any _).mono ?_
    rintro e u5 ⟨rfl, hb17⟩
    go_wp2_with fail
    go_ret
    exact ⟨rfl, bl hb0 hb17⟩
end Go.Proofs.YthonnpjlkcjoeaaDoor.La
