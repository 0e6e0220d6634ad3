/- What the law asks of a result's end, for every end: labels, codes, texts. -/
import Derived.Test.YtkebplifkkhhlaaDoorFltJ
namespace Go.Proofs.YtkebplifkkhhlaaDoor.F
open Go.RowKit Go.Proofs.YtkebplifkkhhlaaDoor.B Go.Proofs.YtkebplifkkhhlaaDoor.La
set_option linter.unusedVariables false
set_option linter.unusedSimpArgs false

def wnL : Wn → Int
  | .blame n _ _ => n
  | _ => 0
def wnK : Wn → Int
  | .none => 0
  | .code c => c
  | .blame _ _ _ => 33
def wnT : Wn → ByteArray
  | .none => ⟨#[]⟩
  | .code c => faultT c
  | .blame n _ nm => blameT n nm
def WnOk : Wn → Prop
  | .none => True
  | .code c => 1 ≤ c ∧ c ≤ 99
  | .blame n _ nm => n ≠ 0 ∧ -9223372036854775808 ≤ n ∧ n ≤ 9223372036854775807 ∧ nm.size ≤ 140737488351232

theorem wn_ok {l : List Site} {m : List Ob} (hok : ∀ s ∈ l, s.mo.size ≤ 140737488351232 ∧ s.ex.size ≤ 140737488351232) (hn : ∀ o ∈ m, -9223372036854775808 ≤ o.n ∧ o.n ≤ 9223372036854775807) : WnOk (wnOf l m) := by
  cases m with
  | nil => trivial
  | cons o m =>
    obtain ⟨n0, n1⟩ := hn o (List.mem_cons_self ..)
    unfold wnOf
    simp only
    by_cases k11 : o.kd = 11
    · rw [if_pos k11]; exact ⟨by omega, by omega⟩
    · rw [if_neg k11]
      by_cases k10 : o.kd = 10
      · rw [if_pos k10]
        by_cases h : o.n < 1 ∨ 99 < o.n
        · rw [if_pos h]; exact ⟨by omega, by omega⟩
        · rw [if_neg h]; exact ⟨by omega, by omega⟩
      · rw [if_neg k10]
        by_cases k9 : o.kd = 9
        · rw [if_pos k9]
          by_cases h : sideL o.n < 1
          · rw [if_pos h]; exact ⟨by omega, by omega⟩
          · rw [if_neg h]
            cases hs : l[(sideL o.n).toNat - 1]? with
            | none => exact ⟨by omega, by omega⟩
            | some s =>
              have hm := hok s (List.mem_of_getElem? hs)
              refine ⟨?_, n0, n1, ?_⟩
              · intro h0
                apply h
                rw [h0]; decide
              · unfold nameOf; split
                · exact hm.2
                · exact hm.1
        · rw [if_neg k9]; trivial

structure Fits (e : Er) (D : Wn) : Prop where
  lab : e.lab.getD 0 = wnL D
  is : e.lab.isSome = (wnL D != 0)
  code : e.code.getD 0 = wnK D
  defs : e.defs = []
  dep : e.dep ≤ 2
  tells : e.tells
  tx : e.tx = wnT D
  nil : wnK D = 0 → e = .no
  some : wnK D ≠ 0 → e ≠ .no ∧ e.code = some (wnK D)

theorem fits_of {e : Er} {D : Wn} (h : e.is D) (ok : WnOk D) : Fits e D := by
  cases D with
  | none => obtain rfl := h; exact ⟨rfl, rfl, rfl, rfl, by decide, trivial, rfl, fun _ => rfl, fun h => absurd rfl h⟩
  | code c =>
    obtain ⟨a, rfl⟩ := h
    obtain ⟨k1, k2⟩ := ok
    have hc : ¬ c = 0 := by omega
    refine ⟨rfl, rfl, ?_, rfl, by simp [Er.dep], ⟨by omega, by omega⟩, rfl, fun h => absurd h hc, fun _ => ⟨nofun, ?_⟩⟩
    · simp [Er.code, wnK, hc]
    · simp [Er.code, wnK, hc]
  | blame n s nm =>
    obtain ⟨a, rfl⟩ := h
    obtain ⟨k0, k1, k2, k3⟩ := ok
    exact ⟨rfl, by simpa [Er.lab, wnL] using k0, rfl, rfl, by simp [Er.dep], ⟨k1, k2, k3⟩, rfl, fun h => absurd (show (33 : Int) = 0 from h) (by decide), fun _ => ⟨nofun, rfl⟩⟩

theorem refText_any (D : Wn) (w : World) (ht : Tab w) (ok : WnOk D) (hk : wnK D ≠ 0) :
    Calls Tryd.prog 20 #[wnV D] w fun e w' => e = .returned (.string (wnT D)) ∧ Below w.heap.size w w' := by
  cases D with
  | none => exact absurd rfl hk
  | code c => exact refText_code c w ht (by have := ok.1; omega) (by have := ok.2; omega)
  | blame n s nm => exact refText_blame n s nm w ht ok.1 ok.2.1 ok.2.2.1 ok.2.2.2

theorem shows_any (e : Er) (D : Wn) (w : World) (hg : Han w) (hat : e.At w) (h : e.is D) (ok : WnOk D) (hk : wnK D ≠ 0) :
    Calls Tryd.prog 21 #[e.val, wnV D] w fun ev w' => ev = .returned (.bool true) ∧ Below w.heap.size w w' := by
  cases D with
  | none => exact absurd rfl hk
  | code c => obtain ⟨a, rfl⟩ := h; exact shows_code a c w hg hat hk
  | blame n s nm => obtain ⟨a, rfl⟩ := h; exact shows_blame a n s nm w hg hat ok.1

theorem wnC_face (D : Wn) : ∃ x1 x2 i3 i4 i5 x6, wnC D = [.int .i64 (wnL D), .string x1, .string x2, .int .i64 i3, .int .i64 i4, .int .i64 i5, .string x6, .int .i64 (wnK D)] := by
  cases D <;> exact ⟨_, _, _, _, _, _, rfl⟩
end Go.Proofs.YtkebplifkkhhlaaDoor.F
