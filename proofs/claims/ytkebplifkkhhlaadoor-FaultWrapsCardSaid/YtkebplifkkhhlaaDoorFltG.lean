/- Contract: the answer's Of (printed by gen_fltg.py). -/
import Derived.Test.YtkebplifkkhhlaaDoorFltF
namespace Go.Proofs.YtkebplifkkhhlaaDoor.F
open Go.RowKit Go.Proofs.YtkebplifkkhhlaaDoor.B Go.Proofs.YtkebplifkkhhlaaDoor.La
set_option linter.unusedVariables false
set_option linter.unusedSimpArgs false

/-- The answer's Err, as a value. -/
def wnC : Wn → List Value
  | .none => [.int .i64 0, .string ⟨#[]⟩, .string ⟨#[]⟩, .int .i64 0, .int .i64 0, .int .i64 0, .string ⟨#[]⟩, .int .i64 0]
  | .code c => [.int .i64 0, .string ⟨#[]⟩, .string ⟨#[]⟩, .int .i64 0, .int .i64 0, .int .i64 0, .string ⟨#[]⟩, .int .i64 c]
  | .blame n s nm => [.int .i64 n, .string s.mo, .string s.ex, .int .i64 s.li, .int .i64 s.co, .int .i64 s.ru, .string nm, .int .i64 33]
def wnV (D : Wn) : Value := .agg (wnC D).toArray

set_option maxRecDepth 100000 in
set_option maxHeartbeats 4000000 in
theorem ref_pos (L : Nat) (b' o : Nat) (c : Nat) (b p N c2 k : Nat) (n li co ru : Int) (mo ex tx : ByteArray) (w : World) (hl : L ≤ 9223372036854775807) (hN : N ≤ 9223372036854775807) (hNp : 0 < N)
   (c0 : w.cell? ⟨b, p, none⟩ = some (.int .i8 9)) (c1 : w.cell? ⟨b, p + 1, none⟩ = some (.int .i64 n)) (c2' : w.cell? ⟨b, p + 2, none⟩ = some (.string tx))
   (s0 : w.cell? ⟨b', o + k * 5, none⟩ = some (.string mo)) (s1 : w.cell? ⟨b', o + k * 5 + 1, none⟩ = some (.string ex)) (s2 : w.cell? ⟨b', o + k * 5 + 2, none⟩ = some (.int .i64 li)) (s3 : w.cell? ⟨b', o + k * 5 + 3, none⟩ = some (.int .i64 co)) (s4 : w.cell? ⟨b', o + k * 5 + 4, none⟩ = some (.int .i64 ru))
   (hb : b < w.heap.size) (hb' : b' < w.heap.size) (hkl : k < L) (hn1 : n = (k : Int) + 1) :
    Calls Tryd.prog 14 #[.slice (some ⟨b', o, none⟩) L c, .slice (some ⟨b, p, none⟩) N c2] w fun ev w' => ev = .returned (wnV (.blame n ⟨mo, ex, li, co, ru⟩ (if ru = 18 then ex else mo))) ∧ Below w.heap.size w w' := by
  have q0 : decide (n < 0) = false := by simp; omega
  have q1 : decide (n < 1) = false := by simp; omega
  have q2 : decide ((L : Int) < n) = false := by simp; omega
  have q3 : decide (0 < n) = true := by simp; omega
  have q4 : n - 1 = (k : Int) := by omega
  clear hn1
  by_cases hr : ru = 18
  · subst hr
    rw [if_pos rfl]
    go_enter Tryd.func14, Tryd.ntmps14
    go_wp2_with fail
    refine bodyPost_ret (v := wnV (.blame n ⟨mo, ex, li, co, 18⟩ ex)) (by simp [wnV, wnC, results, Tryd.results14, go_sem]) rfl ⟨rfl, ?_⟩
    exact bal (bal (bal (Below.refl _ _) _) _) _
  · rw [if_neg hr]
    have r0 : (ru == 18) = false := by simpa using hr
    clear hr
    go_enter Tryd.func14, Tryd.ntmps14
    go_wp2_with fail
    refine bodyPost_ret (v := wnV (.blame n ⟨mo, ex, li, co, ru⟩ mo)) (by simp [wnV, wnC, results, Tryd.results14, go_sem]) rfl ⟨rfl, ?_⟩
    exact bal (bal (bal (Below.refl _ _) _) _) _

set_option maxRecDepth 100000 in
set_option maxHeartbeats 4000000 in
theorem ref_neg (L : Nat) (b' o : Nat) (c : Nat) (b p N c2 k : Nat) (n li co ru : Int) (mo ex tx : ByteArray) (w : World) (hl : L ≤ 9223372036854775807) (hN : N ≤ 9223372036854775807) (hNp : 0 < N)
   (c0 : w.cell? ⟨b, p, none⟩ = some (.int .i8 9)) (c1 : w.cell? ⟨b, p + 1, none⟩ = some (.int .i64 n)) (c2' : w.cell? ⟨b, p + 2, none⟩ = some (.string tx))
   (s0 : w.cell? ⟨b', o + k * 5, none⟩ = some (.string mo)) (s1 : w.cell? ⟨b', o + k * 5 + 1, none⟩ = some (.string ex)) (s2 : w.cell? ⟨b', o + k * 5 + 2, none⟩ = some (.int .i64 li)) (s3 : w.cell? ⟨b', o + k * 5 + 3, none⟩ = some (.int .i64 co)) (s4 : w.cell? ⟨b', o + k * 5 + 4, none⟩ = some (.int .i64 ru))
   (hb : b < w.heap.size) (hb' : b' < w.heap.size) (hkl : k < L) (hn1 : n = -((k : Int) + 1)) :
    Calls Tryd.prog 14 #[.slice (some ⟨b', o, none⟩) L c, .slice (some ⟨b, p, none⟩) N c2] w fun ev w' => ev = .returned (wnV (.blame n ⟨mo, ex, li, co, ru⟩ mo)) ∧ Below w.heap.size w w' := by
  obtain ⟨m, hm⟩ : ∃ m, -n = m := ⟨_, rfl⟩
  have q0 : decide (n < 0) = true := by simp; omega
  have q1 : decide (m < 1) = false := by simp; omega
  have q2 : decide ((L : Int) < m) = false := by simp; omega
  have q3 : decide (0 < n) = false := by simp; omega
  have q4 : m - 1 = (k : Int) := by omega
  have q5 : IntKind.i64.wrap m = m := IntWalk.i64_in _ (by omega)
  clear hn1
  go_enter Tryd.func14, Tryd.ntmps14
  go_wp2_with fail
  refine bodyPost_ret (v := wnV (.blame n ⟨mo, ex, li, co, ru⟩ mo)) (by simp [wnV, wnC, results, Tryd.results14, go_sem]) rfl ⟨rfl, ?_⟩
  exact bal (bal (bal (Below.refl _ _) _) _) _

set_option maxRecDepth 100000 in
set_option maxHeartbeats 4000000 in
theorem refOf_any (l : List Site) (A : Option Addr) (c : Nat) (m : List Ob) (B : Option Addr) (c2 : Nat) (w : World) (hl : l.length ≤ 9223372036854775807) (hm : m.length ≤ 9223372036854775807)
    (hA : Sl w w.heap.size 5 A l.length (cells l)) (hB : Sl w w.heap.size 3 B m.length (obs m)) (hn : ∀ o ∈ m, -9223372036854775808 ≤ o.n ∧ o.n ≤ 9223372036854775807) :
    Calls Tryd.prog 14 #[.slice A l.length c, .slice B m.length c2] w fun ev w' => ev = .returned (wnV (wnOf l m)) ∧ Below w.heap.size w w' := by
  have hbb : Below w.heap.size w (w.alloc (.cells #[.int .i64 0, .string ⟨#[]⟩, .string ⟨#[]⟩, .int .i64 0, .int .i64 0, .int .i64 0, .string ⟨#[]⟩, .int .i64 0] 39)) := (Below.refl _ _).alloc (Nat.le_refl _) _
  cases m with
  | nil =>
    clear hA hB
    simp only [List.length_nil]
    go_enter Tryd.func14, Tryd.ntmps14
    go_wp2_with fail
    refine bodyPost_ret (v := wnV .none) (by simp [wnV, wnC, results, Tryd.results14, go_sem]) rfl ⟨rfl, ?_⟩
    exact bal (Below.refl _ _) _
  | cons o m =>
    obtain ⟨b, p, rfl, hb, c0, c1, c2'⟩ := first_obs hB
    obtain ⟨n0, n1⟩ := hn o (List.mem_cons_self ..)
    obtain ⟨N, hN⟩ : ∃ N, (o :: m).length = N := ⟨_, rfl⟩
    have hNp : 0 < N := by rw [← hN]; simp
    rw [hN] at hm ⊢
    obtain ⟨kd, n, tx⟩ := o
    simp only at c0 c1 c2' n0 n1
    have HW : Hid (wnOf l (⟨kd, n, tx⟩ :: m) = if kd = 11 then Wn.code 36
      else if kd = 10 then (if n < 1 ∨ 99 < n then .code 1 else .code n)
      else if kd = 9 then (if sideL n < 1 then .code 1 else match l[(sideL n).toNat - 1]? with | some s => .blame n s (nameOf s (sideI n)) | Option.none => .code 1)
      else .none) := Lib.hid rfl
    obtain ⟨D, hD⟩ : ∃ D, wnOf l (⟨kd, n, tx⟩ :: m) = D := ⟨_, rfl⟩
    rw [hD] at HW ⊢
    have HA := Lib.hid hA
    clear hB hN hn hA hD
    by_cases k11 : kd = 11
    · subst k11
      have hD : D = .code 36 := by rw [HW.out]; simp
      subst hD
      clear HW
      go_enter Tryd.func14, Tryd.ntmps14
      go_wp2_with fail
      refine bodyPost_ret (v := wnV (.code 36)) (by simp [wnV, wnC, results, Tryd.results14, go_sem]) rfl ⟨rfl, ?_⟩
      exact bal (bal (Below.refl _ _) _) _
    · by_cases k10 : kd = 10
      · subst k10
        by_cases hlo : n < 1
        · have hD : D = .code 1 := by rw [HW.out]; simp [hlo]
          subst hD
          clear HW k11
          go_enter Tryd.func14, Tryd.ntmps14
          go_wp2_with fail
          refine bodyPost_ret (v := wnV (.code 1)) (by simp [wnV, wnC, results, Tryd.results14, go_sem]) rfl ⟨rfl, ?_⟩
          exact bal (bal (Below.refl _ _) _) _
        · by_cases hhi : 99 < n
          · have hD : D = .code 1 := by rw [HW.out]; simp [hhi]
            subst hD
            clear HW k11
            go_enter Tryd.func14, Tryd.ntmps14
            go_wp2_with fail
            refine bodyPost_ret (v := wnV (.code 1)) (by simp [wnV, wnC, results, Tryd.results14, go_sem]) rfl ⟨rfl, ?_⟩
            exact bal (bal (Below.refl _ _) _) _
          · have hD : D = .code n := by rw [HW.out]; simp [hlo, hhi]
            subst hD
            clear HW k11
            go_enter Tryd.func14, Tryd.ntmps14
            go_wp2_with fail
            refine bodyPost_ret (v := wnV (.code n)) (by simp [wnV, wnC, results, Tryd.results14, go_sem]) rfl ⟨rfl, ?_⟩
            exact bal (bal (Below.refl _ _) _) _
      · by_cases k9 : kd = 9
        · subst k9
          by_cases hno : sideL n < 1 ∨ (l.length : Int) < sideL n
          · have hD : D = .code 1 := by
              rw [HW.out]
              simp only [if_neg k11, if_neg k10, if_true]
              rcases hno with h | h
              · rw [if_pos h]
              · by_cases h1 : sideL n < 1
                · rw [if_pos h1]
                · rw [if_neg h1, List.getElem?_eq_none (by omega)]
            subst hD
            clear HW k11 k10
            unfold sideL at hno
            by_cases hp : 0 < n
            · rw [if_pos hp] at hno
              have hgt : (l.length : Int) < n := by omega
              clear hno
              go_enter Tryd.func14, Tryd.ntmps14
              go_wp2_with fail
              refine bodyPost_ret (v := wnV (.code 1)) (by simp [wnV, wnC, results, Tryd.results14, go_sem]) rfl ⟨rfl, ?_⟩
              exact bal (bal (Below.refl _ _) _) _
            · rw [if_neg hp] at hno
              by_cases hmin : n = -9223372036854775808
              · subst hmin
                clear hno hp
                have hwr : wrap64 9223372036854775808 = -9223372036854775808 := by kernel_rfl
                go_enter Tryd.func14, Tryd.ntmps14
                go_wp2_with fail
                refine bodyPost_ret (v := wnV (.code 1)) (by simp [wnV, wnC, results, Tryd.results14, go_sem]) rfl ⟨rfl, ?_⟩
                exact bal (bal (Below.refl _ _) _) _
              · rw [if_neg hmin] at hno
                by_cases h0 : n = 0
                · subst h0
                  clear hno hp
                  go_enter Tryd.func14, Tryd.ntmps14
                  go_wp2_with fail
                  refine bodyPost_ret (v := wnV (.code 1)) (by simp [wnV, wnC, results, Tryd.results14, go_sem]) rfl ⟨rfl, ?_⟩
                  exact bal (bal (Below.refl _ _) _) _
                · have hneg : n < 0 := by omega
                  have hgt : (l.length : Int) < -n := by omega
                  clear hno hp
                  go_enter Tryd.func14, Tryd.ntmps14
                  go_wp2_with fail
                  refine bodyPost_ret (v := wnV (.code 1)) (by simp [wnV, wnC, results, Tryd.results14, go_sem]) rfl ⟨rfl, ?_⟩
                  exact bal (bal (Below.refl _ _) _) _
          · obtain ⟨k, hk⟩ : ∃ k : Nat, sideL n = (k : Int) + 1 := ⟨(sideL n - 1).toNat, by omega⟩
            have hkl : k < l.length := by omega
            obtain ⟨s, hs⟩ : ∃ s, l[k]? = some s := ⟨_, List.getElem?_eq_getElem hkl⟩
            have hD : D = .blame n s (nameOf s (sideI n)) := by
              rw [HW.out]
              simp only [if_neg k11, if_neg k10, if_true]
              rw [if_neg (by omega), show (sideL n).toNat - 1 = k by omega, hs]
            subst hD
            obtain ⟨b', o, rfl, hb', s0, s1, s2, s3, s4⟩ := site_cells HA.out hs
            obtain ⟨mo, ex, li, co, ru⟩ := s
            simp only at s0 s1 s2 s3 s4
            clear HW k11 k10 hno hs HA
            unfold sideL at hk
            by_cases hp : 0 < n
            · rw [if_pos hp] at hk
              have hnm : nameOf ⟨mo, ex, li, co, ru⟩ (sideI n) = if ru = 18 then ex else mo := by simp [nameOf, sideI, hp]
              rw [hnm]
              exact ref_pos l.length b' o c b p N c2 k n li co ru mo ex tx w hl hm hNp c0 c1 c2' s0 s1 s2 s3 s4 hb hb' hkl hk
            · rw [if_neg hp] at hk
              by_cases hmin : n = -9223372036854775808
              · rw [if_pos hmin] at hk; omega
              · rw [if_neg hmin] at hk
                have hnm : nameOf ⟨mo, ex, li, co, ru⟩ (sideI n) = mo := by
                  have h : sideI n = false := by simp [sideI]; omega
                  simp [nameOf, h]
                rw [hnm]
                exact ref_neg l.length b' o c b p N c2 k n li co ru mo ex tx w hl hm hNp c0 c1 c2' s0 s1 s2 s3 s4 hb hb' hkl (by omega)
        · have hD : D = .none := by rw [HW.out]; simp [k11, k10, k9]
          subst hD
          clear HW
          have j11 : (kd == 11) = false := by simpa using k11
          have j10 : (kd == 10) = false := by simpa using k10
          have j9 : (kd == 9) = false := by simpa using k9
          go_enter Tryd.func14, Tryd.ntmps14
          go_wp2_with fail
          refine bodyPost_ret (v := wnV (.none)) (by simp [wnV, wnC, results, Tryd.results14, go_sem]) rfl ⟨rfl, ?_⟩
          exact bal (bal (Below.refl _ _) _) _
end Go.Proofs.YtkebplifkkhhlaaDoor.F
