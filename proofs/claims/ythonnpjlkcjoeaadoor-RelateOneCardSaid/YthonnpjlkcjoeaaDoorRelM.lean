/- Match, plain and its contract. -/
import Derived.Test.YthonnpjlkcjoeaaDoorRelG
namespace Go.Proofs.YthonnpjlkcjoeaaDoor.T
open Go.RowKit Go.Proofs.YthonnpjlkcjoeaaDoor.B
set_option linter.unusedSimpArgs false
set_option linter.unusedVariables false

def dyn : Ty := .leaf 63
def matchB (T : Ty) (h : UInt8) : Bool := T.head == h || (T.head == 63 && decide (1 ≤ arB h))
def matchL (T : Ty) (h : UInt8) : List Ty := if T.head = h then T.kids else if T.head = 63 ∧ 1 ≤ arB h then List.replicate (arB h).toNat dyn else []

/-- A slice of types, of memory of the call's own. -/
def OwnTs (w : World) (base : Nat) (v : Value) (ts : List Ty) : Prop := w.ownsRow base 9 1 v ts.length (ts.map strV)
def MatchR (T : Ty) (h : UInt8) (w : World) (e : Ending) (w' : World) : Prop := ∃ v, e = .returned (.tuple #[v, .bool (matchB T h)]) ∧ OwnTs w' w.heap.size v (matchL T h) ∧ Below w.heap.size w w'

theorem own_two (w : World) : (w.alloc (.cells #[.string ⟨#[63]⟩, .string ⟨#[63]⟩] 9)).ownsRow w.heap.size 9 1 (.slice (some ⟨w.heap.size, 0, none⟩) 2 2) 2 [strV dyn, strV dyn] :=
  ⟨rfl, .inr ⟨w.heap.size, 2, _, rfl, Nat.le_refl _, heap_alloc_new w _, by omega, by unfold maxLen; omega, rfl, rfl⟩⟩
theorem own_one (w : World) : (w.alloc (.cells #[.string ⟨#[63]⟩] 9)).ownsRow w.heap.size 9 1 (.slice (some ⟨w.heap.size, 0, none⟩) 1 1) 1 [strV dyn] :=
  ⟨rfl, .inr ⟨w.heap.size, 1, _, rfl, Nat.le_refl _, heap_alloc_new w _, by omega, by unfold maxLen; omega, rfl, rfl⟩⟩

theorem Match_no (s : ByteArray) (h : UInt8) (w : World) (hs : s.size ≤ 4611686018427387904) (hb : isB s = false) :
    Calls Tryd.prog 30 #[.string s, .int .u8 h.toNat] w fun e w' => e = .returned (.tuple #[.slice none 0 0, .bool false]) ∧ w = w' := by
  have hi := fun W => isRel_any s W hs
  rw [hb] at hi
  go_enter Tryd.func30, Tryd.ntmps30
  go_wp2_with fail
  refine (hi _).mono ?_
  rintro e w' ⟨rfl, rfl⟩
  go_wp2_with fail
  go_ret2
  exact ⟨rfl, rfl⟩

theorem q63 : (63 : Int) = ((63 : UInt8).toNat : Int) := rfl

theorem ar_cases (h : UInt8) : (arB h = 2 ∧ (h = 62 ∨ h = 44)) ∨ (arB h = 1 ∧ (h = 108 ∨ h = 120)) ∨ (arB h < 1 ∧ h ≠ 62 ∧ h ≠ 44 ∧ h ≠ 108 ∧ h ≠ 120) := by
  by_cases h1 : h = 62
  · subst h1; left; exact ⟨by decide, .inl rfl⟩
  by_cases h2 : h = 44
  · subst h2; left; exact ⟨by decide, .inr rfl⟩
  by_cases h3 : h = 108
  · subst h3; right; left; exact ⟨by decide, .inl rfl⟩
  by_cases h4 : h = 120
  · subst h4; right; left; exact ⟨by decide, .inr rfl⟩
  right; right
  refine ⟨?_, h1, h2, h3, h4⟩
  have e1 : h.toNat ≠ 62 := fun e => h1 (UInt8.toNat_inj.1 e)
  have e2 : h.toNat ≠ 44 := fun e => h2 (UInt8.toNat_inj.1 e)
  have e3 : h.toNat ≠ 108 := fun e => h3 (UInt8.toNat_inj.1 e)
  have e4 : h.toNat ≠ 120 := fun e => h4 (UInt8.toNat_inj.1 e)
  unfold arB ar
  repeat' split
  all_goals omega

theorem Match_yes (T : Ty) (h : UInt8) (w : World) (hT : T.ok) (hT64 : T.code.length ≤ 64) :
    Calls Tryd.prog 30 #[.string (str T), .int .u8 h.toNat] w fun e w' => MatchR T h w e w' := by
  have hi := fun W => isRel_any (str T) W (by simp only [str, bs_size]; omega)
  rw [isB_str hT hT64] at hi
  have hp := fun W => Parts_yes T W hT hT64
  unfold PartsR at hp
  obtain ⟨p1, e1⟩ := str_head T
  have q2 := str_q hT
  by_cases ha : T.head = h
  · have hb : ((T.head.toNat : Int) == (h.toNat : Int)) = true := by rw [byte_eq]; simpa using ha
    have r1 : matchB T h = true := by unfold matchB; simp [ha]
    have r2 : matchL T h = T.kids := by unfold matchL; rw [if_pos ha]
    unfold MatchR OwnTs
    rw [r1, r2]
    generalize T.kids = K at *
    generalize T.head = a at *
    generalize str T = s at *
    clear ha hT r1 r2 q2 hT64
    go_enter Tryd.func30, Tryd.ntmps30
    go_wp2_with fail
    refine (hi _).mono ?_
    rintro e w' ⟨rfl, rfl⟩
    go_wp2_with fail
    refine (hp _).mono ?_
    rintro e w1 ⟨v, rfl, ho, hb⟩
    go_wp2_with fail
    go_ret2
    exact ⟨v, rfl, ho, hb⟩
  · have hb : ((T.head.toNat : Int) == (h.toNat : Int)) = false := by rw [byte_eq]; simpa using ha
    by_cases hq : T.head = 63
    · rw [hq] at q2
      have q2' : ((str T).toList == [63]) = true := q2
      have q3 : ((str T).toList != [63]) = false := by rw [bne, q2']; rfl
      have r1 : matchB T h = decide (1 ≤ arB h) := by unfold matchB; rw [hq] at ha ⊢; simp [ha]
      have r2 : matchL T h = if 1 ≤ arB h then List.replicate (arB h).toNat dyn else [] := by unfold matchL; rw [if_neg ha]; simp [hq]
      unfold MatchR OwnTs
      rw [r1, r2]
      rcases ar_cases h with ⟨hr, hc⟩ | ⟨hr, hc⟩ | ⟨hr, n1, n2, n3, n4⟩
      · rw [hr]
        show Calls _ _ _ _ (fun e w' => ∃ v, e = .returned (.tuple #[v, .bool true]) ∧ w'.ownsRow w.heap.size 9 1 v 2 [strV dyn, strV dyn] ∧ Below w.heap.size w w')
        generalize T.head = a at *
        generalize str T = s at *
        clear ha hT r1 r2 q2 hT64 hp hr hq
        have m1 : ((h.toNat : Int) == 62) = (h == 62) := by rw [show (62 : Int) = ((62 : UInt8).toNat : Int) from rfl, byte_eq]
        have m2 : ((h.toNat : Int) == 44) = (h == 44) := by rw [show (44 : Int) = ((44 : UInt8).toNat : Int) from rfl, byte_eq]
        have m3 : ((h.toNat : Int) == 108) = (h == 108) := by rw [show (108 : Int) = ((108 : UInt8).toNat : Int) from rfl, byte_eq]
        have m4 : ((h.toNat : Int) == 120) = (h == 120) := by rw [show (120 : Int) = ((120 : UInt8).toNat : Int) from rfl, byte_eq]
        generalize (h.toNat : Int) = c at *
        rcases hc with hc | hc
        all_goals
          rw [hc] at m1 m2 m3 m4
          simp only [show ((62 : UInt8) == 62) = true from rfl, show ((44 : UInt8) == 62) = false from rfl, show ((108 : UInt8) == 62) = false from rfl, show ((120 : UInt8) == 62) = false from rfl] at m1
          simp only [show ((62 : UInt8) == 44) = false from rfl, show ((44 : UInt8) == 44) = true from rfl, show ((108 : UInt8) == 44) = false from rfl, show ((120 : UInt8) == 44) = false from rfl] at m2
          simp only [show ((62 : UInt8) == 108) = false from rfl, show ((44 : UInt8) == 108) = false from rfl, show ((108 : UInt8) == 108) = true from rfl, show ((120 : UInt8) == 108) = false from rfl] at m3
          simp only [show ((62 : UInt8) == 120) = false from rfl, show ((44 : UInt8) == 120) = false from rfl, show ((108 : UInt8) == 120) = false from rfl, show ((120 : UInt8) == 120) = true from rfl] at m4
          clear hc
          go_enter Tryd.func30, Tryd.ntmps30
          go_wp2_with fail
          refine (hi _).mono ?_
          rintro e w' ⟨rfl, rfl⟩
          go_wp2_with fail
          go_ret2
          exact ⟨_, rfl, own_two w, bal b0 _⟩
      · rw [hr]
        show Calls _ _ _ _ (fun e w' => ∃ v, e = .returned (.tuple #[v, .bool true]) ∧ w'.ownsRow w.heap.size 9 1 v 1 [strV dyn] ∧ Below w.heap.size w w')
        generalize T.head = a at *
        generalize str T = s at *
        clear ha hT r1 r2 q2 hT64 hp hr hq
        have m1 : ((h.toNat : Int) == 62) = (h == 62) := by rw [show (62 : Int) = ((62 : UInt8).toNat : Int) from rfl, byte_eq]
        have m2 : ((h.toNat : Int) == 44) = (h == 44) := by rw [show (44 : Int) = ((44 : UInt8).toNat : Int) from rfl, byte_eq]
        have m3 : ((h.toNat : Int) == 108) = (h == 108) := by rw [show (108 : Int) = ((108 : UInt8).toNat : Int) from rfl, byte_eq]
        have m4 : ((h.toNat : Int) == 120) = (h == 120) := by rw [show (120 : Int) = ((120 : UInt8).toNat : Int) from rfl, byte_eq]
        generalize (h.toNat : Int) = c at *
        rcases hc with hc | hc
        all_goals
          rw [hc] at m1 m2 m3 m4
          simp only [show ((62 : UInt8) == 62) = true from rfl, show ((44 : UInt8) == 62) = false from rfl, show ((108 : UInt8) == 62) = false from rfl, show ((120 : UInt8) == 62) = false from rfl] at m1
          simp only [show ((62 : UInt8) == 44) = false from rfl, show ((44 : UInt8) == 44) = true from rfl, show ((108 : UInt8) == 44) = false from rfl, show ((120 : UInt8) == 44) = false from rfl] at m2
          simp only [show ((62 : UInt8) == 108) = false from rfl, show ((44 : UInt8) == 108) = false from rfl, show ((108 : UInt8) == 108) = true from rfl, show ((120 : UInt8) == 108) = false from rfl] at m3
          simp only [show ((62 : UInt8) == 120) = false from rfl, show ((44 : UInt8) == 120) = false from rfl, show ((108 : UInt8) == 120) = false from rfl, show ((120 : UInt8) == 120) = true from rfl] at m4
          clear hc
          go_enter Tryd.func30, Tryd.ntmps30
          go_wp2_with fail
          refine (hi _).mono ?_
          rintro e w' ⟨rfl, rfl⟩
          go_wp2_with fail
          go_ret2
          exact ⟨_, rfl, own_one w, bal b0 _⟩
      · rw [if_neg (by omega), decide_eq_false (by omega)]
        have m1 : ((h.toNat : Int) == 62) = false := by rw [show (62 : Int) = ((62 : UInt8).toNat : Int) from rfl, byte_eq]; simpa using n1
        have m2 : ((h.toNat : Int) == 44) = false := by rw [show (44 : Int) = ((44 : UInt8).toNat : Int) from rfl, byte_eq]; simpa using n2
        have m3 : ((h.toNat : Int) == 108) = false := by rw [show (108 : Int) = ((108 : UInt8).toNat : Int) from rfl, byte_eq]; simpa using n3
        have m4 : ((h.toNat : Int) == 120) = false := by rw [show (120 : Int) = ((120 : UInt8).toNat : Int) from rfl, byte_eq]; simpa using n4
        generalize T.head = a at *
        generalize str T = s at *
        clear ha hT r1 r2 q2 hT64 hp hr hq n1 n2 n3 n4
        go_enter Tryd.func30, Tryd.ntmps30
        go_wp2_with fail
        refine (hi _).mono ?_
        rintro e w' ⟨rfl, rfl⟩
        go_wp2_with fail
        go_ret2
        exact ⟨_, rfl, World.ownsRow_nil _ _ _ _, b0⟩
    · have q2' : ((str T).toList == [63]) = false := by rw [q2]; simpa using hq
      have q3 : ((str T).toList != [63]) = true := by rw [bne, q2']; rfl
      have r1 : matchB T h = false := by unfold matchB; simp [ha, hq]
      have r2 : matchL T h = [] := by unfold matchL; rw [if_neg ha, if_neg (by intro h; exact hq h.1)]
      unfold MatchR OwnTs
      rw [r1, r2]
      generalize T.head = a at *
      generalize str T = s at *
      clear ha hT r1 r2 q2 hT64 hp hq
      go_enter Tryd.func30, Tryd.ntmps30
      go_wp2_with fail
      refine (hi _).mono ?_
      rintro e w' ⟨rfl, rfl⟩
      go_wp2_with fail
      go_ret2
      exact ⟨_, rfl, World.ownsRow_nil _ _ _ _, b0⟩

end Go.Proofs.YthonnpjlkcjoeaaDoor.T
