/- The coercion of a cast, plain. No program in sight. -/
import Derived.Test.YtjklecncdinabaaGreatDoorCoP
import Derived.Test.YtjklecncdinabaaGreatDoorRelV
namespace Go.Proofs.YtjklecncdinabaaGreatDoor.C
open Go.Proofs.YtjklecncdinabaaGreatDoor.T (Ty arB ar)
set_option linter.unusedSimpArgs false
set_option linter.unusedVariables false

def hI (c : UInt8) : Int := (c.toNat : Int)
def qT : Ty := .leaf 63
/-- The ground type of a head. -/
def grT (h : UInt8) : Ty := if arB h = 2 then .bin h qT qT else if arB h = 1 then .un h qT else .leaf h
/-- A type's parts, as coercions have them: a box's part twice. -/
def kk (S : Ty) : List Ty := if S.head = 120 then S.kids ++ S.kids else S.kids
def setI : Co → Co
  | .part p _ h a b => .part p true h a b
  | c => c
def setP (q : Int) : Co → Co
  | .part _ j h a b => .part q j h a b
  | c => c
def mkKf (f : Ty → Ty → Int → Co) (S T : Ty) (p : Int) (i : Nat) : Co :=
  if turnd (hI S.head) i = true then f ((kk T).getD i qT) ((kk S).getD i qT) (-p) else f ((kk S).getD i qT) ((kk T).getD i qT) p
def mk : Nat → Ty → Ty → Int → Co
  | 0, _, _, _ => .any
  | d + 1, S, T, p =>
    if S.head = 63 ∧ T.head = 63 then .any
    else if T.head = 63 then setI (mk d S (grT S.head) p)
    else if S.head = 63 then setP p (mk d (grT T.head) T p)
    else .part 0 false (hI S.head) (if 0 < opsN (hI S.head) then mkKf (mk d) S T p 0 else .any) (if 1 < opsN (hI S.head) then mkKf (mk d) S T p 1 else .any)
/-- The kids of the part, so many of them. -/
def mkR (d : Nat) (S T : Ty) (p : Int) (k : Nat) : List Co := [mkKf (mk d) S T p 0, mkKf (mk d) S T p 1].take k
theorem mkR_next {d : Nat} {S T : Ty} {p : Int} {k : Nat} (hk : k < 2) : mkR d S T p (k + 1) = mkR d S T p k ++ [mkKf (mk d) S T p k] := by
  rcases k with _ | _ | k
  · rfl
  · rfl
  · omega
theorem mkR_len {d : Nat} {S T : Ty} {p : Int} {k : Nat} (hk : k ≤ 2) : (mkR d S T p k).length = k := by
  rcases k with _ | _ | _ | k
  · rfl
  · rfl
  · rfl
  · omega
theorem mk_part {d : Nat} {S T : Ty} {p : Int} (h1 : S.head ≠ 63) (h2 : T.head ≠ 63) :
    mk (d + 1) S T p = .part 0 false (hI S.head) ((mkR d S T p (opsN (hI S.head))).getD 0 .any) ((mkR d S T p (opsN (hI S.head))).getD 1 .any) := by
  rw [mk, if_neg (by simp [h1]), if_neg h2, if_neg h1]
  rcases opsN_le (hI S.head) with h0 | h0 | h0 <;> rw [h0] <;> rfl
theorem mk_qq {d : Nat} {S T : Ty} {p : Int} (h1 : S.head = 63) (h2 : T.head = 63) : mk (d + 1) S T p = .any := by rw [mk, if_pos ⟨h1, h2⟩]
theorem mk_inj {d : Nat} {S T : Ty} {p : Int} (h1 : S.head ≠ 63) (h2 : T.head = 63) : mk (d + 1) S T p = setI (mk d S (grT S.head) p) := by rw [mk, if_neg (by simp [h1]), if_pos h2]
theorem mk_proj {d : Nat} {S T : Ty} {p : Int} (h1 : S.head = 63) (h2 : T.head ≠ 63) : mk (d + 1) S T p = setP p (mk d (grT T.head) T p) := by rw [mk, if_neg (by simp [h2]), if_neg h2, if_pos h1]

theorem head_cases {S : Ty} (h : S.ok) : (arB S.head = 2 ∧ (S.head = 62 ∨ S.head = 44)) ∨ (arB S.head = 1 ∧ (S.head = 108 ∨ S.head = 120)) ∨ (arB S.head = 0 ∧ (S.head = 105 ∨ S.head = 98 ∨ S.head = 116 ∨ S.head = 63)) := by
  have h1 := Ty.ar_head h
  generalize S.head = c at *
  have key : ∀ n : Nat, (c.toNat : Int) = n → c = UInt8.ofNat n := fun n e => by
    have : c.toNat = n := by omega
    rw [← this]; simp
  unfold arB ar at *
  split at h1
  · rename_i h2
    right; right
    rw [if_pos h2]
    refine ⟨rfl, ?_⟩
    rcases h2 with h2 | h2 | h2 | h2
    · exact .inl (key 105 h2)
    · exact .inr (.inl (key 98 h2))
    · exact .inr (.inr (.inl (key 116 h2)))
    · exact .inr (.inr (.inr (key 63 h2)))
  · split at h1
    · rename_i h2 h3
      right; left
      rw [if_neg h2, if_pos h3]
      refine ⟨rfl, ?_⟩
      rcases h3 with h3 | h3
      · exact .inl (key 108 h3)
      · exact .inr (key 120 h3)
    · split at h1
      · rename_i h2 h3 h4
        left
        rw [if_neg h2, if_neg h3, if_pos h4]
        refine ⟨rfl, ?_⟩
        rcases h4 with h4 | h4
        · exact .inl (key 62 h4)
        · exact .inr (key 44 h4)
      · omega
theorem kk_len {S : Ty} (h : S.ok) (hq : S.head ≠ 63) : (kk S).length = opsN (hI S.head) := by
  have h1 := Ty.ar_head h
  unfold kk
  rcases head_cases h with ⟨e, e1 | e1⟩ | ⟨e, e1 | e1⟩ | ⟨e, e1 | e1 | e1 | e1⟩
  all_goals
    rw [e] at h1
    rw [e1] at hq ⊢
  · rw [if_neg (by decide)]; show _ = 2; omega
  · rw [if_neg (by decide)]; show _ = 2; omega
  · rw [if_neg (by decide)]; show _ = 1; omega
  · rw [if_pos rfl, List.length_append]; show _ = 2; omega
  · rw [if_neg (by decide)]; show _ = 0; omega
  · rw [if_neg (by decide)]; show _ = 0; omega
  · rw [if_neg (by decide)]; show _ = 0; omega
  · exact absurd rfl hq
theorem kk_mem {S k : Ty} (h : k ∈ kk S) : k ∈ S.kids := by
  unfold kk at h
  split at h
  · rcases List.mem_append.1 h with h | h <;> exact h
  · exact h
theorem grT_ok {S : Ty} (h : S.ok) (hq : S.head ≠ 63) : (grT S.head).ok ∧ (grT S.head).head = S.head ∧ (grT S.head).code.length ≤ S.code.length := by
  have hk : qT.ok := by show arB 63 = 0; decide
  have h1 := Ty.ar_head h
  have hl : S.kids.length < S.code.length := by
    rw [Ty.code_eq, List.length_cons]
    have : ∀ K : List Ty, K.length ≤ (K.flatMap Ty.code).length := fun K => by
      induction K with
      | nil => simp
      | cons a K ih => simp only [List.flatMap_cons, List.length_append, List.length_cons]; have := a.code_pos; omega
    have := this S.kids
    omega
  unfold grT
  rcases head_cases h with ⟨e, _⟩ | ⟨e, _⟩ | ⟨e, _⟩
  · rw [if_pos e]
    exact ⟨⟨e, hk, hk⟩, rfl, by show 3 ≤ _; omega⟩
  · rw [if_neg (by omega), if_pos e]
    exact ⟨⟨e, hk⟩, rfl, by show 2 ≤ _; omega⟩
  · rw [if_neg (by omega), if_neg (by omega)]
    exact ⟨e, rfl, by show 1 ≤ _; omega⟩
theorem grT_kids {h : UInt8} : ∀ k ∈ (grT h).kids, k.head = 63 := by
  intro k hk
  unfold grT at hk
  split at hk
  · simp [Ty.kids] at hk; rw [hk]; rfl
  · split at hk
    · simp [Ty.kids] at hk; rw [hk]; rfl
    · simp [Ty.kids] at hk
open Go.Proofs.YtjklecncdinabaaGreatDoor.T in
theorem co_gr {S : Ty} (h : S.ok) (hq : S.head ≠ 63) : co S (grT S.head) ∧ co (grT S.head) S := by
  obtain ⟨g1, g2, _⟩ := grT_ok h hq
  constructor
  · rw [co_any h g1]
    refine .inr (.inr ⟨g2.symm, fun p hp => ?_⟩)
    have hp2 := (List.of_mem_zip hp)
    rw [co_any (Ty.kids_ok h hp2.1) (Ty.kids_ok g1 hp2.2)]
    exact .inr (.inl (grT_kids _ hp2.2))
  · rw [co_any g1 h]
    refine .inr (.inr ⟨g2, fun p hp => ?_⟩)
    have hp2 := (List.of_mem_zip hp)
    rw [co_any (Ty.kids_ok g1 hp2.1) (Ty.kids_ok h hp2.2)]
    exact .inl (grT_kids _ hp2.1)
/-- How far the making goes. -/
def ms (S T : Ty) : Nat := 2 * max S.code.length T.code.length + (if S.head = 63 ∧ T.head ≠ 63 ∨ S.head ≠ 63 ∧ T.head = 63 then 1 else 0)
open Go.Proofs.YtjklecncdinabaaGreatDoor.T in
theorem kids_co {S T : Ty} {i : Nat} (hS : S.ok) (hT : T.ok) (h1 : S.head ≠ 63) (h2 : T.head ≠ 63) (hc : co S T) (hi : i < opsN (hI S.head)) :
    S.head = T.head ∧ (kk S).length = opsN (hI S.head) ∧ (kk T).length = opsN (hI S.head) ∧ (kk S)[i]? = some ((kk S).getD i qT) ∧ (kk T)[i]? = some ((kk T).getD i qT) ∧ ((kk S).getD i qT).ok ∧ ((kk T).getD i qT).ok ∧ co ((kk S).getD i qT) ((kk T).getD i qT) ∧ co ((kk T).getD i qT) ((kk S).getD i qT) ∧
      ((kk S).getD i qT).code.length < S.code.length ∧ ((kk T).getD i qT).code.length < T.code.length ∧ ms ((kk S).getD i qT) ((kk T).getD i qT) < ms S T ∧ ms ((kk T).getD i qT) ((kk S).getD i qT) < ms S T := by
  rw [co_any hS hT] at hc
  rcases hc with h | h | ⟨hh, hz⟩
  · exact absurd h h1
  · exact absurd h h2
  · have l1 := kk_len hS h1
    have l2 := kk_len hT h2
    rw [← hh] at l2
    have e1 : (kk S)[i]? = some ((kk S).getD i qT) := by rw [List.getD_eq_getElem?_getD, List.getElem?_eq_getElem (by omega)]; rfl
    have e2 : (kk T)[i]? = some ((kk T).getD i qT) := by rw [List.getD_eq_getElem?_getD, List.getElem?_eq_getElem (by omega)]; rfl
    have m1 := kk_mem (List.mem_of_getElem? e1)
    have m2 := kk_mem (List.mem_of_getElem? e2)
    have o1 := Ty.kids_ok hS m1
    have o2 := Ty.kids_ok hT m2
    have hkk : ∀ p ∈ (kk S).zip (kk T), co p.1 p.2 := by
      unfold kk
      rw [← hh]
      split
      · have hl : S.kids.length = T.kids.length := kids_len hS hT hh
        intro p hp
        rw [List.zip_append hl, List.mem_append] at hp
        rcases hp with hp | hp <;> exact hz p hp
      · exact hz
    have c1 : co ((kk S).getD i qT) ((kk T).getD i qT) := by
      have : ((kk S).zip (kk T))[i]? = some ((kk S).getD i qT, (kk T).getD i qT) := by rw [List.getElem?_zip_eq_some]; exact ⟨e1, e2⟩
      exact hkk _ (List.mem_of_getElem? this)
    have n1 := Ty.kid_code m1
    have n2 := Ty.kid_code m2
    refine ⟨hh, l1, l2, e1, e2, o1, o2, c1, co_symm o1 o2 c1, n1, n2, ?_, ?_⟩
    · unfold ms
      rw [if_neg (show ¬ (S.head = 63 ∧ T.head ≠ 63 ∨ S.head ≠ 63 ∧ T.head = 63) by simp [h1, h2])]
      split <;> omega
    · unfold ms
      rw [if_neg (show ¬ (S.head = 63 ∧ T.head ≠ 63 ∨ S.head ≠ 63 ∧ T.head = 63) by simp [h1, h2])]
      split <;> omega
theorem ms_pos (S T : Ty) : 2 ≤ ms S T := by unfold ms; have := S.code_pos; omega
theorem ms_gr {S T : Ty} (hS : S.ok) (h1 : S.head ≠ 63) (h2 : T.head = 63) : ms S (grT S.head) < ms S T ∧ ms (grT S.head) S < ms T S := by
  obtain ⟨_, g2, g3⟩ := grT_ok hS h1
  unfold ms
  rw [g2]
  have := T.code_pos
  constructor
  · rw [if_neg (by simp [h1]), if_pos (by simp [h1, h2])]; omega
  · rw [if_neg (by simp [h1]), if_pos (by simp [h1, h2])]; omega
theorem mk_is_part {d : Nat} {S T : Ty} {p : Int} (h1 : S.head ≠ 63) (h2 : T.head ≠ 63) : ∃ a b, mk (d + 1) S T p = .part 0 false (hI S.head) a b := ⟨_, _, mk_part h1 h2⟩
end Go.Proofs.YtjklecncdinabaaGreatDoor.C
