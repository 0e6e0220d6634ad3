/- Contracts: copies of what comes in; sized, much. -/
import Derived.Test.YtkebplifkkhhlaaDoorFltE
import Derived.BigQuiet
import Derived.Deep.QuietTactic
namespace Go.Proofs.YtkebplifkkhhlaaDoor.F
open Go.RowKit Go.Proofs.YtkebplifkkhhlaaDoor.B Go.Proofs.YtkebplifkkhhlaaDoor.La
set_option linter.unusedVariables false
set_option linter.unusedSimpArgs false

theorem info31b : (Tryd.prog.info? 36).map (fun i => (i.zero, i.size, i.bytes)) = some (some (.agg La.blank), 5, 56) := by kernel_rfl
theorem info122 : (Tryd.prog.info? 122).map (fun i => (i.zero, i.size, i.bytes)) = some (some (.agg #[.int .i8 0, .int .i64 0, .string ⟨#[]⟩]), 3, 32) := by kernel_rfl
theorem cells_one' (l : List Site) : ∀ u ∈ cells l, u.oneCell' = true := by
  intro u hu
  obtain ⟨s, _, hs⟩ := List.mem_flatMap.1 hu
  simp only [Site.vs, List.mem_cons, List.not_mem_nil, or_false] at hs
  rcases hs with rfl | rfl | rfl | rfl | rfl <;> rfl
theorem obs_one (l : List Ob) : ∀ u ∈ obs l, u.oneCell' = true := by
  intro u hu
  obtain ⟨s, _, hs⟩ := List.mem_flatMap.1 hu
  simp only [Ob.vs, List.mem_cons, List.not_mem_nil, or_false] at hs
  rcases hs with rfl | rfl | rfl <;> rfl

theorem copySites_any (l : List Site) (A : Option Addr) (c : Nat) (w : World) (hl : l.length ≤ 16384) (hA : Sl w w.heap.size 5 A l.length (cells l)) :
    Calls Tryd.prog 11 #[.slice A l.length c] w fun e w' => ∃ A' c', e = .returned (.slice A' l.length c') ∧ Sl w' w'.heap.size 5 A' l.length (cells l) ∧ Below w.heap.size w w' := by
  obtain ⟨i0, hi0, hz0, hz1, hz2⟩ := info_parts info31b
  go_enter Tryd.func11, Tryd.ntmps11
  go_wp2_with (at_builtin; refine wpList_append_sl _ rfl (.tmp 4) (.tmp 5) _ rfl w.heap.size 36 i0 _ 5 56 Tryd.underlying22 hi0 hz0 hz1 hz2 rfl (by omega) (.slice none 0 0) 0 [] rfl (World.ownsRow_nil _ _ _ _) w.heap.size A l.length c (cells l) rfl hA (cells_one' l) (by simp only [maxLen]; omega) (by omega) (Nat.le_refl _) ?_; intro v1 w1 hown hg hat)
  obtain ⟨A', c', hv, _, _, hsl⟩ := Sl.of_own hown
  simp only [Nat.zero_add, List.nil_append] at hv hsl
  rw [hv]
  go_ret
  exact ⟨A', c', rfl, hsl, (Below.refl _ _).grown hg (Nat.le_refl _) (by simp [Value.ownBlock])⟩

theorem copySeen_any (l : List Ob) (A : Option Addr) (c : Nat) (w : World) (hl : l.length ≤ 16384) (hA : Sl w w.heap.size 3 A l.length (obs l)) :
    Calls Tryd.prog 13 #[.slice A l.length c] w fun e w' => ∃ A' c', e = .returned (.slice A' l.length c') ∧ Sl w' w'.heap.size 3 A' l.length (obs l) ∧ Below w.heap.size w w' := by
  obtain ⟨i0, hi0, hz0, hz1, hz2⟩ := info_parts info122
  go_enter Tryd.func13, Tryd.ntmps13
  go_wp2_with (at_builtin; refine wpList_append_sl _ rfl (.tmp 4) (.tmp 5) _ rfl w.heap.size 122 i0 _ 3 32 Tryd.underlying23 hi0 hz0 hz1 hz2 rfl (by omega) (.slice none 0 0) 0 [] rfl (World.ownsRow_nil _ _ _ _) w.heap.size A l.length c (obs l) rfl hA (obs_one l) (by simp only [maxLen]; omega) (by omega) (Nat.le_refl _) ?_; intro v1 w1 hown hg hat)
  obtain ⟨A', c', hv, _, _, hsl⟩ := Sl.of_own hown
  simp only [Nat.zero_add, List.nil_append] at hv hsl
  rw [hv]
  go_ret
  exact ⟨A', c', rfl, hsl, (Below.refl _ _).grown hg (Nat.le_refl _) (by simp [Value.ownBlock])⟩

/-- Sites whose texts are small. -/
def Lite (l : List Site) : Prop := ∀ s ∈ l, s.mo.size + s.ex.size ≤ 4194304

set_option maxRecDepth 100000 in
theorem sized_any (l : List Site) (A : Option Addr) (c : Nat) (w : World) (hl : l.length ≤ 16384) (hok : ∀ s ∈ l, s.mo.size ≤ 140737488351232 ∧ s.ex.size ≤ 140737488351232) (hA : Sl w w.heap.size 5 A l.length (cells l)) :
    Calls Tryd.prog 57 #[.slice A l.length c] w fun e w' => ∃ v, e = .returned (.bool v) ∧ (v = false → Lite l) ∧ Below w.heap.size w w' := by
  have HA := Lib.hid hA
  have HO := Lib.hid hok
  clear hA hok
  go_enter Tryd.func57, Tryd.ntmps57
  go_wp2
  go_loopw [3, 4] (fun n i wr => ∃ (k N : Nat), k ≤ l.length ∧ i = .int .i64 k ∧ n = .int .i64 N ∧ N ≤ 4194304 ∧ Hid (∀ s ∈ l.take k, s.mo.size + s.ex.size ≤ 4194304) ∧ ∃ m, wr = w.drewN m) (fun _ i _ => l.length - (intOf i).toNat)
  case atStart => exact ⟨0, 0, Nat.zero_le _, rfl, rfl, by omega, Lib.hid (by simp), 0, rfl⟩
  case round =>
    obtain ⟨k, N, hk, rfl, rfl, hN, HT, m, rfl⟩ := hrel
    by_cases hlt : k < l.length
    · obtain ⟨s, hs⟩ : ∃ s, l[k]? = some s := ⟨_, List.getElem?_eq_getElem hlt⟩
      obtain ⟨b, o, rfl, hb, c0, c1, _⟩ := site_cells HA.out hs
      obtain ⟨b0, b1⟩ := HO.out s (List.mem_of_getElem? hs)
      by_cases hbig : N + s.mo.size + s.ex.size ≤ 4194304
      · have HS : Hid (∀ s ∈ l.take (k + 1), s.mo.size + s.ex.size ≤ 4194304) := Lib.hid (by
          intro s' hs'
          rw [List.take_succ_eq_append_getElem hlt] at hs'
          rcases List.mem_append.1 hs' with h | h
          · exact HT.out s' h
          · have e : l[k] = s := by rw [List.getElem?_eq_getElem hlt] at hs; exact Option.some.inj hs
            simp only [List.mem_singleton] at h
            subst h
            rw [e]; omega)
        go_wp2
        go_quiet (fail)
        go_wp2
        go_roundw
        case rel => exact ⟨k + 1, N + s.mo.size + s.ex.size, by omega, by go_num, by go_num, hbig, HS, m + nq, rfl⟩
        case measure => simp [intOf]; omega
      · go_wp2
        go_quiet (fail)
        go_wp2
        go_ret
        exact ⟨true, by simp <;> omega, by simp, below_drewN (Below.refl _ _) _⟩
    · obtain rfl : k = l.length := by omega
      go_wp2
      go_ret
      exact ⟨false, rfl, fun _ s hs => HT.out s (by simpa using hs), below_drewN (Below.refl _ _) _⟩

/-- What 'much' answers. -/
def MuchR (l : List Site) (m : List Ob) (w : World) (e : Ending) (w' : World) : Prop := ∃ v, e = .returned (.bool v) ∧ (v = false → l.length ≤ 16384 ∧ m.length ≤ 16384 ∧ Lite l) ∧ Below w.heap.size w w'

theorem much_any (l : List Site) (A : Option Addr) (c : Nat) (m : List Ob) (B : Option Addr) (c2 : Nat) (w : World) (hl : l.length ≤ 9223372036854775807) (hm : m.length ≤ 9223372036854775807) (hok : ∀ s ∈ l, s.mo.size ≤ 140737488351232 ∧ s.ex.size ≤ 140737488351232) (hA : Sl w w.heap.size 5 A l.length (cells l)) :
    Calls Tryd.prog 9 #[.slice A l.length c, .slice B m.length c2] w fun e w' => MuchR l m w e w' := by
  by_cases h1 : 16384 < l.length
  · go_enter Tryd.func9, Tryd.ntmps9
    go_wp2_with fail
    go_ret
    exact ⟨true, rfl, by simp, Below.refl _ _⟩
  · by_cases h2 : 16384 < m.length
    · go_enter Tryd.func9, Tryd.ntmps9
      go_wp2_with fail
      go_ret
      exact ⟨true, rfl, by simp, Below.refl _ _⟩
    · have h := sized_any l A c w (by omega) hok hA
      clear hA hok
      go_enter Tryd.func9, Tryd.ntmps9
      go_wp2_with fail
      (refine h.mono ?_); rintro ev w1 ⟨v, rfl, hv, hb⟩
      go_wp2_with fail
      go_ret
      have d1 : decide ((16384 : Int) < (l.length : Int)) = false := by simp; omega
      have d2 : decide ((16384 : Int) < (m.length : Int)) = false := by simp; omega
      exact ⟨v, by rw [d1, d2]; rfl, fun h => ⟨by omega, by omega, hv h⟩, hb⟩
end Go.Proofs.YtkebplifkkhhlaaDoor.F
