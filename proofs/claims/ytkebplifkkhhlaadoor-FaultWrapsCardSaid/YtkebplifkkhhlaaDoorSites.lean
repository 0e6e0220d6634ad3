/- Sites in memory, as plain data; no program in sight. -/
import Derived.Test.YtkebplifkkhhlaaDoorBase
namespace Go.Proofs.YtkebplifkkhhlaaDoor.La
open Go.RowKit Go.Proofs.YtkebplifkkhhlaaDoor.B

structure Site where
  mo : ByteArray
  ex : ByteArray
  li : Int
  co : Int
  ru : Int

def Site.vs (s : Site) : List Value := [.string s.mo, .string s.ex, .int .i64 s.li, .int .i64 s.co, .int .i64 s.ru]

/-- What came in fits its kinds. -/
structure Site.ok (s : Site) : Prop where
  mo : s.mo.size ≤ maxLen
  ex : s.ex.size ≤ maxLen
  l0 : -9223372036854775808 ≤ s.li
  l1 : s.li ≤ 9223372036854775807
  c0 : -9223372036854775808 ≤ s.co
  c1 : s.co ≤ 9223372036854775807
  r0 : -9223372036854775808 ≤ s.ru
  r1 : s.ru ≤ 9223372036854775807

def cells (l : List Site) : List Value := l.flatMap Site.vs

theorem cells_len (l : List Site) : (cells l).length = l.length * 5 := by
  induction l with
  | nil => rfl
  | cons s l ih => simp only [cells, List.flatMap_cons, List.length_append, List.length_cons] at *; rw [ih]; simp [Site.vs]; omega

theorem cells_at (l : List Site) : ∀ (k : Nat) (s : Site) (j : Nat), l[k]? = some s → j < 5 → (cells l)[k * 5 + j]? = s.vs[j]? := by
  induction l with
  | nil => intro k s j h; simp at h
  | cons x l ih =>
    intro k s j h hj
    have hl : x.vs.length = 5 := rfl
    cases k with
    | zero =>
      simp at h; subst h
      simp only [cells, List.flatMap_cons]
      rw [List.getElem?_append_left (by omega)]; simp
    | succ k =>
      simp at h
      have := ih k s j h hj
      simp only [cells, List.flatMap_cons] at *
      rw [List.getElem?_append_right (by omega)]
      rw [hl, show (k + 1) * 5 + j - 5 = k * 5 + j by omega]; exact this

/-- The cells of element k, in the spelling of the walk. -/
theorem site_cells {w : World} {B : Nat} {A : Option Addr} {l : List Site} (h : Sl w B 5 A l.length (cells l)) {k : Nat} {s : Site} (hk : l[k]? = some s) :
    ∃ b o, A = some ⟨b, o, none⟩ ∧ b < B ∧ w.cell? ⟨b, o + k * 5, none⟩ = some (.string s.mo) ∧ w.cell? ⟨b, o + k * 5 + 1, none⟩ = some (.string s.ex) ∧ w.cell? ⟨b, o + k * 5 + 2, none⟩ = some (.int .i64 s.li) ∧
      w.cell? ⟨b, o + k * 5 + 3, none⟩ = some (.int .i64 s.co) ∧ w.cell? ⟨b, o + k * 5 + 4, none⟩ = some (.int .i64 s.ru) := by
  have hl : k < l.length := (List.getElem?_eq_some_iff.1 hk).1
  obtain ⟨b, o, rfl, hb, hc⟩ := h.at_ (by omega)
  have g : ∀ j u, j < 5 → s.vs[j]? = some u → w.cell? ⟨b, o + k * 5 + j, none⟩ = some u := by
    intro j u hj hu
    have := hc (k * 5 + j) u (by rw [cells_at l k s j hk hj]; exact hu)
    rwa [← Nat.add_assoc] at this
  exact ⟨b, o, rfl, hb, g 0 _ (by omega) rfl, g 1 _ (by omega) rfl, g 2 _ (by omega) rfl, g 3 _ (by omega) rfl, g 4 _ (by omega) rfl⟩

/-- wide's count, up to element k. -/
def weigh (l : List Site) (k : Nat) : Nat := ((l.take k).map fun s => s.mo.size + s.ex.size).sum

end Go.Proofs.YtkebplifkkhhlaaDoor.La
