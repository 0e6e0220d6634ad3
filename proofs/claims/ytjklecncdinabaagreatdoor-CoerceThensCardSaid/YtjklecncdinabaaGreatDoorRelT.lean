/- Relating two types, plain. -/
import Derived.Test.YtjklecncdinabaaGreatDoorTy
namespace Go.Proofs.YtjklecncdinabaaGreatDoor.T

/-- Part by part, by what is asked of two that stand at one place. -/
def allT (ask : Ty → Ty → Int) : Ty → Ty → Bool
  | .leaf h, T => if 0 ≤ ask (.leaf h) T then ask (.leaf h) T == 1 else true
  | .un h a, T => if 0 ≤ ask (.un h a) T then ask (.un h a) T == 1 else match T with | .un _ b => allT ask a b | _ => true
  | .bin h a b, T => if 0 ≤ ask (.bin h a b) T then ask (.bin h a b) T == 1 else match T with | .bin _ c d => allT ask a c && allT ask b d | _ => true

def askC (S T : Ty) : Int := if S.head = 63 ∨ T.head = 63 then 1 else if S.head = T.head then -1 else 0
def askP (S T : Ty) : Int := if T.head = 63 then 1 else if S.head = T.head then -1 else 0

/-- What is asked tells types of one head alone apart. -/
structure Asks (ask : Ty → Ty → Int) : Prop where
  neg : ∀ S T, ask S T < 0 → S.head = T.head
  lo : ∀ S T, -1 ≤ ask S T
  hi : ∀ S T, ask S T ≤ 1
theorem askC_asks : Asks askC := by
  refine ⟨fun S T h => ?_, fun S T => ?_, fun S T => ?_⟩
  · unfold askC at h
    split at h
    · omega
    · split at h
      · assumption
      · omega
  · unfold askC
    repeat' split
    all_goals omega
  · unfold askC
    repeat' split
    all_goals omega
theorem askP_asks : Asks askP := by
  refine ⟨fun S T h => ?_, fun S T => ?_, fun S T => ?_⟩
  · unfold askP at h
    split at h
    · omega
    · split at h
      · assumption
      · omega
  · unfold askP
    repeat' split
    all_goals omega
  · unfold askP
    repeat' split
    all_goals omega

theorem kids_len {S T : Ty} (hS : S.ok) (hT : T.ok) (h : S.head = T.head) : S.kids.length = T.kids.length := by
  have h1 := Ty.ar_head hS
  have h2 := Ty.ar_head hT
  rw [h] at h1
  omega

theorem allT_kids {ask : Ty → Ty → Int} {S T : Ty} (hS : S.ok) (hT : T.ok) (hA : Asks ask) :
    allT ask S T = if 0 ≤ ask S T then ask S T == 1 else (S.kids.zip T.kids).all fun p => allT ask p.1 p.2 := by
  by_cases h : 0 ≤ ask S T
  · rw [if_pos h]
    cases S <;> simp only [allT, if_pos h]
  · rw [if_neg h]
    have hh := hA.neg S T (by omega)
    have hl := kids_len hS hT hh
    cases S with
    | leaf a => simp [allT, if_neg h, Ty.kids]
    | un a s =>
      cases T with
      | leaf b => simp [Ty.kids] at hl
      | un b t => simp [allT, if_neg h, Ty.kids]
      | bin b t u => simp [Ty.kids] at hl
    | bin a s s' =>
      cases T with
      | leaf b => simp [Ty.kids] at hl
      | un b t => simp [Ty.kids] at hl
      | bin b t u => simp [allT, if_neg h, Ty.kids]

theorem head63 {t : Ty} (h : t.ok) (e : t.head = 63) : t = .leaf 63 := by
  cases t with
  | leaf a => simp [Ty.head] at e; rw [e]
  | un a b => simp [Ty.head] at e; have := h.1; rw [e] at this; exact absurd this (by decide)
  | bin a b c => simp [Ty.head] at e; have := h.1; rw [e] at this; exact absurd this (by decide)

theorem all_take_lt {α : Type} {l : List α} {p : α → Bool} {k : Nat} {x : α} (hk : l[k]? = some x) (hp : p x = false) : l.all p = false := by
  rw [List.all_eq_false]
  exact ⟨x, List.mem_of_getElem? hk, by simp [hp]⟩

theorem zip_all {K1 K2 : List Ty} (hl : K1.length = K2.length) (f : Ty → Ty → Bool) (h : ∀ m S T, m < K1.length → K1[m]? = some S → K2[m]? = some T → f S T = true) : ((K1.zip K2).all fun p => f p.1 p.2) = true := by
  rw [List.all_eq_true]
  intro p hp
  obtain ⟨m, hm⟩ := List.getElem?_of_mem hp
  rw [List.getElem?_zip_eq_some] at hm
  exact h m p.1 p.2 (List.getElem?_eq_some_iff.1 hm.1).1 hm.1 hm.2
theorem zip_not {K1 K2 : List Ty} (f : Ty → Ty → Bool) {m : Nat} {S T : Ty} (h1 : K1[m]? = some S) (h2 : K2[m]? = some T) (h : f S T = false) : ((K1.zip K2).all fun p => f p.1 p.2) = false := by
  rw [List.all_eq_false]
  exact ⟨(S, T), List.mem_of_getElem? (List.getElem?_zip_eq_some.2 ⟨h1, h2⟩), by simp [h]⟩

end Go.Proofs.YtjklecncdinabaaGreatDoor.T
