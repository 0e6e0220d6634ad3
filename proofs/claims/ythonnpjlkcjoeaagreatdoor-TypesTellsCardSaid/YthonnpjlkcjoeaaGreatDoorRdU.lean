/- Contract of the program's Read. -/
import Derived.Test.YthonnpjlkcjoeaaGreatDoorRdT
namespace Go.Proofs.YthonnpjlkcjoeaaGreatDoor.T
open Go.RowKit Go.Proofs.YthonnpjlkcjoeaaGreatDoor.B
set_option linter.unusedSimpArgs false
set_option linter.unusedVariables false

theorem oneS_any (g B : Nat) (o : Int) (z : Bool) (one arm : List Tok → Rd) (n : Nat) (ho : 0 ≤ o) (ho2 : o ≤ 64) (hz : z = true ↔ o = 64) (hn : n ≤ 4294967296)
    (hO : z = false → ConP 65 one g B (o + 1) n) (hA : ConP 76 arm g B o n) : ConP 65 (oneS z one arm) g B o n := by
  intro ts w hG hl hP
  have ho3 : z = false → o < 64 := fun hf => by
    rcases Int.lt_or_eq_of_le ho2 with h | h
    · exact h
    · rw [hz.2 h] at hf; cases hf
  have hA1 := fun W (hp : Prs W g B ts o 0 0) => hA ts W hG hl hp
  unfold oneS
  cases hr : arm ts with
  | no E P =>
    rw [hr] at hA1
    exact one_no g B ts o w hP E P hA1
  | yes A r =>
    rw [hr] at hA1
    simp only
    cases r with
    | nil =>
      refine Calls.mono (one_vac g B ts o w hP A hA1) ?_
      intro e w' h; exact h.elim
    | cons u r =>
      by_cases hx : u.tx = [45, 62]
      · rw [if_pos (show (hd (u :: r)).tx = [45, 62] from hx)]
        have e0 : (if z = true then failT 16 (u :: r) else match one (u :: r).tail with
          | .no e p => .no e p
          | .yes b ts2 => .yes (62 :: (A ++ b)) ts2) = if z then failT 16 (u :: r) else (one r).map ((62 :: A) ++ ·) := by
          cases z
          · show (match one r with | .no e p => Rd.no e p | .yes b ts2 => .yes (62 :: (A ++ b)) ts2) = _
            cases one r <;> rfl
          · rfl
        refine one_arrow g B ts o w hP A u r _ hx hA1 fun W n hW hg hlen h0 hc hng hnl => ?_
        refine (congrArg (fun R => OpensA A n g B ts o R w W) e0).mpr ?_
        have hr2 : r ≠ [] := by
          intro h; rw [h] at hg; rw [show u.tx = [] from hg] at hx; cases hx
        have hG2 : GoodT r := hg.next (by rw [hx]; decide)
        cases z
        · simp only [List.length_cons] at hlen
          exact opensA_ok A n g B u r ts o one w W hW ho (ho3 rfl) hx hr2 hG2 (by simp only [List.length_cons]; omega) (Nat.le_trans hl hn) h0 hc hng hnl ((hO rfl).less (by omega))
        · obtain rfl := hz.1 rfl
          exact opensA_deep A n g B u r ts w W hW (by omega) h0
      · rw [if_neg (show ¬ (hd (u :: r)).tx = [45, 62] from hx)]
        exact one_yes g B ts o w hP A u r hx hA1

theorem prsP_any (g B n : Nat) (hn : n ≤ 4294967296) (d : Nat) : ∀ (o : Int), o + d = 64 → 0 ≤ o → ConP 65 (oneP d) g B o n ∧ ConP 76 (armP d) g B o n := by
  induction d with
  | zero =>
    intro o ho h0
    have ha : ConP 76 (armP 0) g B o n := by
      rw [armP_zero]; exact armS_ok g B o true _ _ n h0 (by omega) ⟨(fun _ => by omega), (fun _ => rfl)⟩ hn (fun h => by cases h) (fun h => by cases h)
    refine ⟨?_, ha⟩
    rw [oneP_zero]
    exact oneS_any g B o true _ _ n h0 (by omega) ⟨(fun _ => by omega), (fun _ => rfl)⟩ hn (fun h => by cases h) ha
  | succ d ih =>
    intro o ho h0
    obtain ⟨i1, i2⟩ := ih (o + 1) (by omega) (by omega)
    have ha : ConP 76 (armP (d + 1)) g B o n := by
      rw [armP_succ]; exact armS_ok g B o false _ _ n h0 (by omega) ⟨(fun h => by cases h), (fun e => by omega)⟩ hn (fun _ => i1) (fun _ => i2)
    refine ⟨?_, ha⟩
    rw [oneP_succ]
    exact oneS_any g B o false _ _ n h0 (by omega) ⟨(fun h => by cases h), (fun e => by omega)⟩ hn (fun _ => i1) ha
end Go.Proofs.YthonnpjlkcjoeaaGreatDoor.T
