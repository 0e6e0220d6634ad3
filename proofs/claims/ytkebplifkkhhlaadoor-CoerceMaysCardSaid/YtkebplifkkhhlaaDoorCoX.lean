/- From where to where a coercion goes, plain; the program's ground. -/
import Derived.Test.YtkebplifkkhhlaaDoorCoW
import Derived.Test.YtkebplifkkhhlaaDoorSfA
namespace Go.Proofs.YtkebplifkkhhlaaDoor.C
open Go.RowKit Go.Proofs.YtkebplifkkhhlaaDoor.B
open Go.Proofs.YtkebplifkkhhlaaDoor.T (Ty str strV arB ar bs bs_list bs_append repeatL_q ground04_any)
set_option linter.unusedVariables false
set_option linter.unusedSimpArgs false

/-- The ground type of a head. -/
def gT (h : Int) : Ty := grT (UInt8.ofNat h.toNat)
def srcT (p h : Int) (S : Ty) : Ty := if p = 0 then S else gT h
def dstT (j : Bool) (h : Int) (T : Ty) : Ty := if j = true then gT h else T
def kkD (S : Ty) (i : Nat) : Ty := (kk S).getD i qT
def goesC : Co → Ty → Ty → Bool
  | .any, S, T => S.head == 63 && T.head == 63
  | .fail p _ f _, S, _ => if p = 0 then hI S.head == f else S.head == 63
  | .part p j h a b, S, T =>
    (p == 0 || S.head == 63) && (hI (srcT p h S).head == h) && (!j || T.head == 63) && (hI (dstT j h T).head == h) &&
    ((if 1 ≤ opsN h then (if turnd h 0 = true then goesC a (kkD (dstT j h T) 0) (kkD (srcT p h S) 0) else goesC a (kkD (srcT p h S) 0) (kkD (dstT j h T) 0)) else true) &&
     (if 2 ≤ opsN h then (if turnd h 1 = true then goesC b (kkD (dstT j h T) 1) (kkD (srcT p h S) 1) else goesC b (kkD (srcT p h S) 1) (kkD (dstT j h T) 1)) else true))
/-- Kid i goes where it should. -/
def goK (h : Int) (a b : Co) (S T : Ty) (i : Nat) : Bool := if turnd h i = true then goesC (kidT a b i) (kkD T i) (kkD S i) else goesC (kidT a b i) (kkD S i) (kkD T i)
theorem goes_part {p : Int} {j : Bool} {h : Int} {a b : Co} {S T : Ty} : goesC (.part p j h a b) S T = true ↔ (p = 0 ∨ S.head = 63) ∧ hI (srcT p h S).head = h ∧ (j = false ∨ T.head = 63) ∧ hI (dstT j h T).head = h ∧
    ∀ i, i < opsN h → goK h a b (srcT p h S) (dstT j h T) i = true := by
  simp only [goesC, Bool.and_eq_true, Bool.or_eq_true, beq_iff_eq, Bool.not_eq_true']
  have hk : (((if 1 ≤ opsN h then (if turnd h 0 = true then goesC a (kkD (dstT j h T) 0) (kkD (srcT p h S) 0) else goesC a (kkD (srcT p h S) 0) (kkD (dstT j h T) 0)) else true) = true) ∧
     ((if 2 ≤ opsN h then (if turnd h 1 = true then goesC b (kkD (dstT j h T) 1) (kkD (srcT p h S) 1) else goesC b (kkD (srcT p h S) 1) (kkD (dstT j h T) 1)) else true) = true)) ↔
     ∀ i, i < opsN h → goK h a b (srcT p h S) (dstT j h T) i = true := by
    constructor
    · rintro ⟨h1, h2⟩ i hi
      rcases i with _ | _ | i
      · rw [if_pos (by omega)] at h1; exact h1
      · rw [if_pos (by omega)] at h2; exact h2
      · have := opsN_le h; omega
    · intro hh
      constructor
      · split
        · exact hh 0 (by omega)
        · rfl
      · split
        · exact hh 1 (by omega)
        · rfl
  rw [hk]
  constructor
  · rintro ⟨⟨⟨⟨h1, h2⟩, h3⟩, h4⟩, h5⟩; exact ⟨h1, h2, h3, h4, h5⟩
  · rintro ⟨h1, h2, h3, h4, h5⟩; exact ⟨⟨⟨⟨h1, h2⟩, h3⟩, h4⟩, h5⟩

/-- The heads that there are. -/
theorem head_seven {h : Int} (hh : headB h = true) : h = 105 ∨ h = 98 ∨ h = 116 ∨ h = 62 ∨ h = 44 ∨ h = 108 ∨ h = 120 := by
  rw [headB_eq] at hh
  simp only [Bool.or_eq_true, beq_iff_eq] at hh
  omega
theorem gT_ok {h : Int} (hh : headB h = true) : (gT h).ok ∧ hI (gT h).head = h ∧ (gT h).code.length ≤ 64 ∧ (gT h).head ≠ 63 ∧ (gT h).code = T.grL (UInt8.ofNat h.toNat) (partsN h) := by
  have hq : qT.ok := by show arB 63 = 0; decide
  rcases head_seven hh with rfl | rfl | rfl | rfl | rfl | rfl | rfl
  · exact ⟨by show arB 105 = 0; decide, rfl, by decide, by decide, by decide⟩
  · exact ⟨by show arB 98 = 0; decide, rfl, by decide, by decide, by decide⟩
  · exact ⟨by show arB 116 = 0; decide, rfl, by decide, by decide, by decide⟩
  · exact ⟨⟨by decide, hq, hq⟩, rfl, by decide, by decide, by decide⟩
  · exact ⟨⟨by decide, hq, hq⟩, rfl, by decide, by decide, by decide⟩
  · exact ⟨⟨by decide, hq⟩, rfl, by decide, by decide, by decide⟩
  · exact ⟨⟨by decide, hq⟩, rfl, by decide, by decide, by decide⟩
theorem str_gT {h : Int} (hh : headB h = true) : str (gT h) = bs (T.grL (UInt8.ofNat h.toNat) (partsN h)) := by
  unfold str; rw [(gT_ok hh).2.2.2.2]
theorem okC_head {p : Int} {j : Bool} {h : Int} {a b : Co} (ho : okC (.part p j h a b)) : headB h = true := by
  obtain ⟨_, h1, _⟩ := ho
  unfold headB; simpa using h1

/-- The program's ground. -/
theorem groundC_any (h : Int) (w : World) (hh : headB h = true) : Calls Tryd.prog 127 #[.int .u8 h] w fun e w' => e = .returned (.string (str (gT h))) ∧ Below w.heap.size w w' := by
  have hops := fun W => ops_any h W
  have hrep : ∀ n : Nat, n ≤ 2 → ∀ W, Calls Tryd.prog 146 #[.string ⟨#[63]⟩, .int .i64 n] W fun e w' => e = .returned (.string (bs (List.replicate n 63))) ∧ Below W.heap.size W w' := fun n hn W => by
    have := Tryd.strings_Repeat ⟨#[63]⟩ n W (by omega) (by show 1 * _ ≤ _; omega)
    rw [show (⟨#[63]⟩ : ByteArray).data.toList = [63] from rfl, repeatL_q] at this
    exact this
  have key : ∀ (k : Nat) (c : UInt8), (opsN h = k ∨ h = 120) → k ≤ 2 → (h = 120 → k = 1) → Utf8.encode h = bs [c] → str (gT h) = bs (c :: List.replicate k 63) →
      Calls Tryd.prog 127 #[.int .u8 h] w fun e w' => e = .returned (.string (str (gT h))) ∧ Below w.heap.size w w' := by
    intro k c hk hk2 hx henc hstr
    have hr := hrep k hk2
    have hcat : bs [c] ++ bs (List.replicate k 63) = str (gT h) := by rw [bs_append, hstr]; rfl
    have hz1 : (bs [c]).size = 1 := rfl
    have hz2 : (bs (List.replicate k 63)).size ≤ 2 := by rw [T.bs_size, List.length_replicate]; exact hk2
    generalize str (gT h) = s at *
    generalize bs (List.replicate k 63) = r at *
    generalize bs [c] = o at *
    clear hrep hstr
    by_cases h120 : h = 120
    · obtain rfl := hx h120
      subst h120
      have HO := Lib.hid hops
      have HR := Lib.hid hr
      have HC := Lib.hid hcat
      clear hops hr hcat hk hx
      go_enter Tryd.func127, Tryd.ntmps127
      go_wp2_with fail
      (refine (HO.out _).mono ?_); rintro ev w1 ⟨rfl, rfl⟩
      go_wp2_with fail
      (refine (HR.out _).mono ?_); rintro ev w1 ⟨rfl, hb1⟩
      go_wp2_with fail
      go_ret
      exact ⟨by rw [← HC.out]; rfl, hb1⟩
    · have hk' := hk.resolve_right h120
      rw [hk'] at hops
      have h1 : (h == 120) = false := by simpa using h120
      have HO := Lib.hid hops
      have HR := Lib.hid hr
      have HC := Lib.hid hcat
      clear hops hr hcat hk hx hk' h120
      go_enter Tryd.func127, Tryd.ntmps127
      go_wp2_with fail
      (refine (HO.out _).mono ?_); rintro ev w1 ⟨rfl, rfl⟩
      go_wp2_with fail
      (refine (HR.out _).mono ?_); rintro ev w1 ⟨rfl, hb1⟩
      go_wp2_with fail
      go_ret
      exact ⟨by rw [← HC.out]; rfl, hb1⟩
  have hs := str_gT hh
  rcases head_seven hh with rfl | rfl | rfl | rfl | rfl | rfl | rfl
  · exact key 0 105 (.inl rfl) (by omega) (by decide) rfl (hs.trans rfl)
  · exact key 0 98 (.inl rfl) (by omega) (by decide) rfl (hs.trans rfl)
  · exact key 0 116 (.inl rfl) (by omega) (by decide) rfl (hs.trans rfl)
  · exact key 2 62 (.inl rfl) (by omega) (by decide) rfl (hs.trans rfl)
  · exact key 2 44 (.inl rfl) (by omega) (by decide) rfl (hs.trans rfl)
  · exact key 1 108 (.inl rfl) (by omega) (by decide) rfl (hs.trans rfl)
  · exact key 1 120 (.inr rfl) (by omega) (fun _ => rfl) rfl (hs.trans rfl)

/-- The answer's ground. -/
theorem groundR_any (h : Int) (w : World) (hh : headB h = true) : Calls Tryd.prog 97 #[.int .u8 h] w fun e w' => e = .returned (.string (str (gT h))) ∧ Below w.heap.size w w' := by
  have key : ∀ c : UInt8, (c.toNat : Int) = h → UInt8.ofNat h.toNat = c → Calls Tryd.prog 97 #[.int .u8 h] w fun e w' => e = .returned (.string (str (gT h))) ∧ Below w.heap.size w w' := by
    intro c hc hc2
    have hp : partsN h ≤ 2 := by unfold partsN; repeat' split
                                 all_goals omega
    have := ground04_any c (partsN h) w hp (fun W => by rw [hc]; exact partsN_any W h)
    rw [hc] at this
    rw [str_gT hh, hc2]
    exact this
  rcases head_seven hh with rfl | rfl | rfl | rfl | rfl | rfl | rfl
  · exact key 105 rfl rfl
  · exact key 98 rfl rfl
  · exact key 116 rfl rfl
  · exact key 62 rfl rfl
  · exact key 44 rfl rfl
  · exact key 108 rfl rfl
  · exact key 120 rfl rfl
end Go.Proofs.YtkebplifkkhhlaaDoor.C
