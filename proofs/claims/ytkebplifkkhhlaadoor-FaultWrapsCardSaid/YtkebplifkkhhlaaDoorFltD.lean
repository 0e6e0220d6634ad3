/- Contract: fault.Of. -/
import Derived.Test.YtkebplifkkhhlaaDoorFltC
import Derived.Test.YtkebplifkkhhlaaDoorLabA
namespace Go.Proofs.YtkebplifkkhhlaaDoor.F
open Go.RowKit Go.Proofs.YtkebplifkkhhlaaDoor.B Go.Proofs.YtkebplifkkhhlaaDoor.La
set_option linter.unusedVariables false
set_option linter.unusedSimpArgs false

/-- What is seen, at one place. -/
structure Ob where
  kd : Int
  n : Int
  tx : ByteArray
def Ob.vs (o : Ob) : List Value := [.int .i8 o.kd, .int .i64 o.n, .string o.tx]
def obs (l : List Ob) : List Value := l.flatMap Ob.vs
theorem obs_len (l : List Ob) : (obs l).length = l.length * 3 := by
  induction l with
  | nil => rfl
  | cons s l ih => simp only [obs, List.flatMap_cons, List.length_append, List.length_cons] at *; rw [ih]; simp [Ob.vs]; omega

/-- What a result ends with, as data. -/
inductive Wn where
  | none
  | code (c : Int)
  | blame (n : Int) (s : Site) (nm : ByteArray)

def wnOf (l : List Site) : List Ob → Wn
  | [] => .none
  | o :: _ =>
    if o.kd = 11 then .code 36
    else if o.kd = 10 then (if o.n < 1 ∨ 99 < o.n then .code 1 else .code o.n)
    else if o.kd = 9 then (if sideL o.n < 1 then .code 1 else match l[(sideL o.n).toNat - 1]? with | some s => .blame o.n s (nameOf s (sideI o.n)) | Option.none => .code 1)
    else .none

def Er.is (e : Er) : Wn → Prop
  | .none => e = .no
  | .code c => ∃ a, e = .fa a c
  | .blame n s nm => ∃ a, e = .bl a n s nm

theorem first_obs {w : World} {B : Option Addr} {o : Ob} {m : List Ob} (h : Sl w w.heap.size 3 B (o :: m).length (obs (o :: m))) :
    ∃ b p, B = some ⟨b, p, Option.none⟩ ∧ b < w.heap.size ∧ w.cell? ⟨b, p, Option.none⟩ = some (.int .i8 o.kd) ∧ w.cell? ⟨b, p + 1, Option.none⟩ = some (.int .i64 o.n) ∧ w.cell? ⟨b, p + 2, Option.none⟩ = some (.string o.tx) := by
  obtain ⟨b, p, hB, hb, hc⟩ := h.at_ (by simp)
  exact ⟨b, p, hB, hb, hc 0 _ rfl, hc 1 _ rfl, hc 2 _ rfl⟩

/-- A result, as a value. -/
def resV (B : Option Addr) (n c : Nat) (st fr ca : Int) : Value := .agg #[.slice B n c, .int .i64 st, .int .i64 fr, .int .i64 ca]

theorem at_fa {w : World} {k : Nat} {c : Int} (hk : k = w.heap.size) : (Er.fa k c).At (w.alloc (.cells #[.int .i64 c] 91)) := by subst hk; exact Blk.new _ _ _
theorem at_bl {w : World} {k : Nat} {n : Int} {s : Site} {nm : ByteArray} (hk : k = w.heap.size) : (Er.bl k n s nm).At (w.alloc (.cells #[.int .i64 n, .string s.mo, .string s.ex, .int .i64 s.li, .int .i64 s.co, .int .i64 s.ru, .string nm] 128)) := by subst hk; exact Blk.new _ _ _

set_option maxRecDepth 100000 in
set_option maxHeartbeats 4000000 in
theorem of_any (l : List Site) (A : Option Addr) (c : Nat) (m : List Ob) (B : Option Addr) (c2 : Nat) (st fr ca : Int) (w : World) (hl : l.length ≤ 9223372036854775807) (hm : m.length ≤ 9223372036854775807)
    (hA : Sl w w.heap.size 5 A l.length (cells l)) (hB : Sl w w.heap.size 3 B m.length (obs m)) (hn : ∀ o ∈ m, -9223372036854775808 ≤ o.n ∧ o.n ≤ 9223372036854775807) :
    Calls Tryd.prog 12 #[.slice A l.length c, resV B m.length c2 st fr ca] w fun ev w' => ∃ e : Er, ev = .returned e.val ∧ e.At w' ∧ e.is (wnOf l m) ∧ Below w.heap.size w w' := by
  cases m with
  | nil =>
    unfold resV
    clear hA hB
    simp only [List.length_nil]
    go_enter Tryd.func12, Tryd.ntmps12
    go_wp2_with fail
    go_ret
    exact ⟨.no, rfl, trivial, rfl, (Below.refl _ _).alloc (Nat.le_refl _) _⟩
  | cons o m =>
    obtain ⟨b, p, rfl, hb, c0, c1, c2'⟩ := first_obs hB
    obtain ⟨n0, n1⟩ := hn o (List.mem_cons_self ..)
    obtain ⟨N, hN⟩ : ∃ N, (o :: m).length = N := ⟨_, rfl⟩
    have hNp : 0 < N := by rw [← hN]; simp
    rw [hN] at hm ⊢
    obtain ⟨kd, n, tx⟩ := o
    unfold resV
    simp only at c0 c1 c2' n0 n1
    have HW : Hid (wnOf l (⟨kd, n, tx⟩ :: m) = if kd = 11 then Wn.code 36
      else if kd = 10 then (if n < 1 ∨ 99 < n then .code 1 else .code n)
      else if kd = 9 then (if sideL n < 1 then .code 1 else match l[(sideL n).toNat - 1]? with | some s => .blame n s (nameOf s (sideI n)) | Option.none => .code 1)
      else .none) := Lib.hid rfl
    obtain ⟨D, hD⟩ : ∃ D, wnOf l (⟨kd, n, tx⟩ :: m) = D := ⟨_, rfl⟩
    rw [hD] at HW ⊢
    have HA := Lib.hid hA
    have hbb : Below w.heap.size w (w.alloc (.cells #[.slice (some ⟨b, p, Option.none⟩) N c2, .int .i64 st, .int .i64 fr, .int .i64 ca] 32)) := (Below.refl _ _).alloc (Nat.le_refl _) _
    clear hB hN hn hA hD
    by_cases k11 : kd = 11
    · subst k11
      have hD : D = .code 36 := by rw [HW.out]; simp
      have HD := Lib.hid hD
      clear HW hD
      go_enter Tryd.func12, Tryd.ntmps12
      go_wp2_with fail
      go_ret
      exact ⟨.fa _ 36, rfl, at_fa (by simp), by rw [HD.out]; exact ⟨_, rfl⟩, bal (bal hbb _) _⟩
    · by_cases k10 : kd = 10
      · subst k10
        by_cases hlo : n < 1
        · have hD : D = .code 1 := by rw [HW.out]; simp [hlo]
          have HD := Lib.hid hD
          clear HW hD k11
          go_enter Tryd.func12, Tryd.ntmps12
          go_wp2_with fail
          go_ret
          exact ⟨.fa _ 1, rfl, at_fa (by simp), by rw [HD.out]; exact ⟨_, rfl⟩, bal (bal hbb _) _⟩
        · by_cases hhi : 99 < n
          · have hD : D = .code 1 := by rw [HW.out]; simp [hhi]
            have HD := Lib.hid hD
            clear HW hD k11
            go_enter Tryd.func12, Tryd.ntmps12
            go_wp2_with fail
            go_ret
            exact ⟨.fa _ 1, rfl, at_fa (by simp), by rw [HD.out]; exact ⟨_, rfl⟩, bal (bal hbb _) _⟩
          · have hD : D = .code n := by rw [HW.out]; simp [hlo, hhi]
            have HD := Lib.hid hD
            clear HW hD k11
            go_enter Tryd.func12, Tryd.ntmps12
            go_wp2_with fail
            go_ret
            exact ⟨.fa _ n, rfl, at_fa (by simp), by rw [HD.out]; exact ⟨_, rfl⟩, bal (bal hbb _) _⟩
      · by_cases k9 : kd = 9
        · subst k9
          obtain ⟨W2, hW2⟩ : ∃ W2, (w.alloc (.cells #[.slice (some ⟨b, p, Option.none⟩) N c2, .int .i64 st, .int .i64 fr, .int .i64 ca] 32)).alloc (.cells #[.int .i8 9, .int .i64 n, .string tx] 122) = W2 := ⟨_, rfl⟩
          have hs2 : W2.heap.size = w.heap.size + 2 := by rw [← hW2]; simp
          have HB2 : Hid (Below w.heap.size w W2) := Lib.hid (by rw [← hW2]; exact bal hbb _)
          have HS2 : Hid (W2.heap.size = w.heap.size + 2) := Lib.hid hs2
          have HC : Hid (∀ W, Below W2.heap.size W2 W → W.cell? ⟨w.heap.size + 1, 1, Option.none⟩ = some (.int .i64 n)) := Lib.hid fun W hb => (hb.cell (p := ⟨w.heap.size + 1, 1, Option.none⟩) (by show w.heap.size + 1 < _; omega)).trans (by rw [← hW2]; simp)
          have q0 : W2.cell? ⟨w.heap.size + 1, 0, Option.none⟩ = some (.int .i8 9) := by rw [← hW2]; simp
          have q00 : W2.cell? ⟨w.heap.size + 1, 1, Option.none⟩ = some (.int .i64 n) := by rw [← hW2]; simp
          by_cases hno : sideL n < 1 ∨ (l.length : Int) < sideL n
          · have hD : D = .code 1 := by
              rw [HW.out]
              simp only [if_neg k11, if_neg k10, if_true]
              rcases hno with h | h
              · rw [if_pos h]
              · by_cases h1 : sideL n < 1
                · rw [if_pos h1]
                · rw [if_neg h1, List.getElem?_eq_none (by omega)]
            have HD := Lib.hid hD
            have ho := fun W => of_no l A c n W n0 n1 hl hno
            have hnm := fun W => named_no l A c n W n0 n1 hl hno
            simp only [La.blank] at ho
            clear HW hD k11 k10 hno hs2
            go_enter Tryd.func12, Tryd.ntmps12
            go_wp2_with fail
            try rw [hW2]
            (refine (ho _).mono ?_); rintro ev w1 ⟨rfl, hb1⟩
            have q1 := fun o => HC.out (w1.alloc o) (bal hb1 o)
            have HQ1 := Lib.hid hb1
            clear hb1
            go_wp2_with fail
            (refine (hnm _).mono ?_); rintro ev w3 ⟨rfl, hb3⟩
            go_wp2_with fail
            go_ret
            exact ⟨.fa _ 1, rfl, at_fa (by simp), by rw [HD.out]; exact ⟨_, rfl⟩, bal (bl (bal (bl HB2.out HQ1.out) _) hb3) _⟩
          · obtain ⟨k, hk⟩ : ∃ k : Nat, sideL n = (k : Int) + 1 := ⟨(sideL n - 1).toNat, by omega⟩
            have hkl : k < l.length := by omega
            obtain ⟨s, hs⟩ : ∃ s, l[k]? = some s := ⟨_, List.getElem?_eq_getElem hkl⟩
            have hD : D = .blame n s (nameOf s (sideI n)) := by
              rw [HW.out]
              simp only [if_neg k11, if_neg k10, if_true]
              rw [if_neg (by omega), show (sideL n).toNat - 1 = k by omega, hs]
            have HD := Lib.hid hD
            have ho := fun (W : World) (hb : Below w.heap.size w W) => of_yes l A c k s n W n0 n1 hl ((HA.out.below hb).more hb.size) hk hs
            have hnm := fun (W : World) (hb : Below w.heap.size w W) => named_yes l A c k s n W n0 n1 hl ((HA.out.below hb).more hb.size) hk hs
            obtain ⟨nm, hnn⟩ : ∃ nm, nameOf s (sideI n) = nm := ⟨_, rfl⟩
            rw [hnn] at hnm HD
            have hvs : s.vs.toArray = #[.string s.mo, .string s.ex, .int .i64 s.li, .int .i64 s.co, .int .i64 s.ru] := rfl
            rw [hvs] at ho
            clear HW hD k11 k10 hno hs2 hk hkl hs hnn hvs
            go_enter Tryd.func12, Tryd.ntmps12
            go_wp2_with fail
            try rw [hW2]
            (refine (ho _ HB2.out).mono ?_); rintro ev w1 ⟨rfl, hb1⟩
            have q1 := fun o => HC.out (w1.alloc o) (bal hb1 o)
            have HQ1 := Lib.hid hb1
            clear hb1
            go_wp2_with fail
            (refine (hnm _ (bal (bl HB2.out HQ1.out) _)).mono ?_); rintro ev w3 ⟨rfl, hb3⟩
            have q3 := HC.out w3 (bl (bal HQ1.out _) hb3)
            obtain ⟨⟨p0, p1, p2, p3, p4⟩, _⟩ := Blk.five (Blk.below (Blk.new w1 36 #[.string s.mo, .string s.ex, .int .i64 s.li, .int .i64 s.co, .int .i64 s.ru]) hb3 (by simp))
            have HQ5 := Lib.hid (bl (bal (bl HB2.out HQ1.out) _) hb3)
            clear hb3
            go_wp2_with fail
            go_ret
            exact ⟨.bl _ n s nm, rfl, at_bl (by simp), by rw [HD.out]; exact ⟨_, rfl⟩, bal HQ5.out _⟩
        · have hD : D = .none := by rw [HW.out]; simp [k11, k10, k9]
          have HD := Lib.hid hD
          clear HW hD
          have j11 : (kd == 11) = false := by simpa using k11
          have j10 : (kd == 10) = false := by simpa using k10
          have j9 : (kd == 9) = false := by simpa using k9
          go_enter Tryd.func12, Tryd.ntmps12
          go_wp2_with fail
          go_ret
          exact ⟨.no, rfl, trivial, by rw [HD.out]; rfl, bal hbb _⟩
end Go.Proofs.YtkebplifkkhhlaaDoor.F
