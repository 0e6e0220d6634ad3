/- Contracts of the small functions of package label: Side, Turn. -/
import Derived.Test.YtkebplifkkhhlaaDoorProg
import Derived.Test.YtkebplifkkhhlaaDoorSites
import Derived.WalkLawsBesides
import Derived.WalkSpells
import Derived.Deep.QuietTactic
import Derived.BigQuiet
namespace Go.Proofs.YtkebplifkkhhlaaDoor.La
open Go.RowKit Go.Proofs.YtkebplifkkhhlaaDoor.B
set_option linter.unusedVariables false
set_option linter.unusedSimpArgs false

/-- label.Side, as the Go text has it. -/
def sideL (b : Int) : Int := if 0 < b then b else if b = -9223372036854775808 then 0 else -b
def sideI (b : Int) : Bool := decide (0 < b)
def turn (b : Int) : Int := if b = -9223372036854775808 then 0 else -b

theorem ret2 {k l : Value} {k' l' : Value} (h : k = k') (h2 : l = l') : Ending.returned (.tuple #[k, l]) = .returned (.tuple #[k', l']) := by rw [h, h2]

theorem side_any (b : Int) (w : World) (h0 : -9223372036854775808 ≤ b) (h1 : b ≤ 9223372036854775807) :
    Calls Tryd.prog 107 #[.int .i64 b] w fun e w' => e = .returned (.tuple #[.int .i64 (sideL b), .bool (sideI b)]) ∧ w = w' := by
  unfold sideL sideI
  by_cases hp : 0 < b
  · go_enter Tryd.func107, Tryd.ntmps107
    go_wp2
    go_ret2
    simp [hp]
  · by_cases hm : b = -9223372036854775808
    · go_enter Tryd.func107, Tryd.ntmps107
      go_wp2
      go_ret2
      simp [hm]
    · have hm1 : -9223372036854775808 < b := by omega
      go_enter Tryd.func107, Tryd.ntmps107
      go_wp2
      go_ret2
      simp [hp, hm]

/-- The blank site, as values. -/
def blank : Array Value := #[.string ⟨#[]⟩, .string ⟨#[]⟩, .int .i64 0, .int .i64 0, .int .i64 0]

theorem of_no (l : List Site) (A : Option Addr) (c : Nat) (b : Int) (w : World) (h0 : -9223372036854775808 ≤ b) (h1 : b ≤ 9223372036854775807) (hl : l.length ≤ 9223372036854775807)
    (h : sideL b < 1 ∨ (l.length : Int) < sideL b) :
    Calls Tryd.prog 58 #[.slice A l.length c, .int .i64 b] w fun e w' => e = .returned (.tuple #[.agg blank, .int .i64 1]) ∧ Below w.heap.size w w' := by
  obtain ⟨n, hn⟩ : ∃ n, sideL b = n := ⟨_, rfl⟩
  have hs := side_any b (w.alloc (.cells blank 36)) h0 h1
  rw [hn] at hs h
  clear hn
  unfold blank at *
  by_cases h2 : n < 1
  · clear h
    go_enter Tryd.func58, Tryd.ntmps58
    go_wp2_with (go_at_call 107; refine hs.mono ?_; rintro e w' ⟨rfl, rfl⟩)
    refine bodyPost_ret (v := .tuple #[.agg #[.string ⟨#[]⟩, .string ⟨#[]⟩, .int .i64 0, .int .i64 0, .int .i64 0], .int .i64 1]) (by simp [results, Tryd.results58, go_sem]) rfl ⟨rfl, ?_⟩
    exact (Below.refl _ _).alloc (Nat.le_refl _) _
  · have h3 : (l.length : Int) < n := by omega
    clear h
    go_enter Tryd.func58, Tryd.ntmps58
    go_wp2_with (go_at_call 107; refine hs.mono ?_; rintro e w' ⟨rfl, rfl⟩)
    refine bodyPost_ret (v := .tuple #[.agg #[.string ⟨#[]⟩, .string ⟨#[]⟩, .int .i64 0, .int .i64 0, .int .i64 0], .int .i64 1]) (by simp [results, Tryd.results58, go_sem]) rfl ⟨rfl, ?_⟩
    exact (Below.refl _ _).alloc (Nat.le_refl _) _

theorem of_yes (l : List Site) (A : Option Addr) (c k : Nat) (s : Site) (b : Int) (w : World) (h0 : -9223372036854775808 ≤ b) (h1 : b ≤ 9223372036854775807) (hl : l.length ≤ 9223372036854775807)
    (hA : Sl w w.heap.size 5 A l.length (cells l)) (hk : sideL b = (k : Int) + 1) (hs : l[k]? = some s) :
    Calls Tryd.prog 58 #[.slice A l.length c, .int .i64 b] w fun e w' => e = .returned (.tuple #[.agg s.vs.toArray, .int .i64 0]) ∧ Below w.heap.size w w' := by
  have hlt : k < l.length := (List.getElem?_eq_some_iff.1 hs).1
  obtain ⟨bb, o, rfl, hb, c0, c1, c2, c3, c4⟩ := site_cells hA hs
  have hs := side_any b (w.alloc (.cells blank 36)) h0 h1
  rw [hk] at hs
  clear hk hA
  unfold blank Site.vs at *
  go_enter Tryd.func58, Tryd.ntmps58
  go_wp2_with (go_at_call 107; refine hs.mono ?_; rintro e w' ⟨rfl, rfl⟩)
  refine bodyPost_ret (v := .tuple #[.agg #[.string s.mo, .string s.ex, .int .i64 s.li, .int .i64 s.co, .int .i64 s.ru], .int .i64 0]) (by simp [results, Tryd.results58, go_sem]) rfl ⟨rfl, ?_⟩
  exact (Below.refl _ _).alloc (Nat.le_refl _) _

/-- label.named -/
def nameOf (s : Site) (i : Bool) : ByteArray := if s.ru = 18 ∧ i = true then s.ex else s.mo

theorem named_any (s : Site) (i : Bool) (w : World) :
    Calls Tryd.prog 108 #[.agg s.vs.toArray, .bool i] w fun e w' => e = .returned (.string (nameOf s i)) ∧ Below w.heap.size w w' := by
  unfold nameOf Site.vs
  by_cases h : s.ru = 18
  · obtain ⟨mo, ex, li, co, ru⟩ := s
    simp only at h
    subst h
    cases i
    · go_enter Tryd.func108, Tryd.ntmps108
      go_wp2
      go_ret
      exact ⟨rfl, (Below.refl _ _).alloc (Nat.le_refl _) _⟩
    · go_enter Tryd.func108, Tryd.ntmps108
      go_wp2
      go_goals
      go_ways
      go_ret
      exact ⟨rfl, (Below.refl _ _).alloc (Nat.le_refl _) _⟩
  · go_enter Tryd.func108, Tryd.ntmps108
    go_wp2
    go_ret
    exact ⟨by simp [h], (Below.refl _ _).alloc (Nat.le_refl _) _⟩

theorem named_no (l : List Site) (A : Option Addr) (c : Nat) (b : Int) (w : World) (h0 : -9223372036854775808 ≤ b) (h1 : b ≤ 9223372036854775807) (hl : l.length ≤ 9223372036854775807)
    (h : sideL b < 1 ∨ (l.length : Int) < sideL b) :
    Calls Tryd.prog 59 #[.slice A l.length c, .int .i64 b] w fun e w' => e = .returned (.tuple #[.string ⟨#[]⟩, .int .i64 1]) ∧ Below w.heap.size w w' := by
  have ho := of_no l A c b w h0 h1 hl h
  clear h
  unfold blank at ho
  go_enter Tryd.func59, Tryd.ntmps59
  go_wp2_with (go_at_call 58; refine ho.mono ?_; rintro e w1 ⟨rfl, hb⟩)
  go_ret2
  exact ⟨rfl, hb.alloc hb.size _⟩

theorem named_yes (l : List Site) (A : Option Addr) (c k : Nat) (s : Site) (b : Int) (w : World) (h0 : -9223372036854775808 ≤ b) (h1 : b ≤ 9223372036854775807) (hl : l.length ≤ 9223372036854775807)
    (hA : Sl w w.heap.size 5 A l.length (cells l)) (hk : sideL b = (k : Int) + 1) (hs : l[k]? = some s) :
    Calls Tryd.prog 59 #[.slice A l.length c, .int .i64 b] w fun e w' => e = .returned (.tuple #[.string (nameOf s (sideI b)), .int .i64 0]) ∧ Below w.heap.size w w' := by
  have ho := of_yes l A c k s b w h0 h1 hl hA hk hs
  have hn := fun W => named_any s (sideI b) W
  clear hA hk hs
  unfold Site.vs at *
  go_enter Tryd.func59, Tryd.ntmps59
  go_wp2_with (first
    | (go_at_call 58; refine ho.mono ?_; rintro e w1 ⟨rfl, hb⟩)
    | (go_at_call 107; refine (side_any b _ h0 h1).mono ?_; rintro e w' ⟨rfl, rfl⟩)
    | (go_at_call 108; refine (hn _).mono ?_; rintro e w2 ⟨rfl, hb2⟩))
  go_ret2
  exact ⟨rfl, (hb.alloc hb.size _).trans (hb2.mono (by have := hb.size; simp; omega))⟩

theorem info31 : (Tryd.prog.info? 36).map (fun i => (i.zero, i.size, i.bytes)) = some (some (.agg blank), 5, 56) := by kernel_rfl

end Go.Proofs.YtkebplifkkhhlaaDoor.La
