/- Parts of this claim: CdW. -/
import Derived.Test.YtobplngonkdbpaaGreatDoorP02
import Derived.Test.YtobplngonkdbpaaGreatDoorP03
set_option linter.unusedVariables false
set_option linter.unusedSimpArgs false
/- CdW -/
namespace Go.Proofs.YtobplngonkdbpaaGreatDoor.D
open Go.RowKit
open Go.Proofs.YtobplngonkdbpaaGreatDoor.B
set_option linter.unusedVariables false
set_option linter.unusedSimpArgs false

/-! ### Rows that are owned, apart -/
/-- A row: its elements' type, their cells, the slice, how many, all cells. -/
structure Rw where
  e : TypeId
  sz : Nat
  v : Value
  n : Nat
  xs : List Value
/-- Rows of blocks from base on, no two in the same block. -/
structure Own (w : World) (base : Nat) (l : List Rw) : Prop where
  own : ∀ r ∈ l, w.ownsRow base r.e r.sz r.v r.n r.xs
  ap : l.Pairwise fun a b => Ap a.v b.v

section
variable {w w' : World} {base N : Nat} {A B l : List Rw} {r r' : Rw}
theorem Own.lt (h : Own w base l) (hr : r ∈ l) : ∀ b, r.v.ownBlock = some b → base ≤ b ∧ b < w.heap.size := (h.own r hr).lt
theorem Own.nil : Own w base [] := ⟨fun _ h => (by cases h), .nil⟩
theorem Own.grow (h : Own w base l) (hb : Below w.heap.size w w') : Own w' base l := ⟨fun r hr => own_below (h.own r hr) hb, h.ap⟩
theorem Own.mid (h : Own w base (A ++ r :: B)) : (∀ x ∈ A, Ap x.v r.v) ∧ (∀ x ∈ B, Ap x.v r.v) := by
  obtain ⟨_, h2, h3⟩ := List.pairwise_append.1 h.ap
  exact ⟨fun x hx => h3 x hx r (by simp), fun x hx => ((List.pairwise_cons.1 h2).1 x hx).symm⟩
/-- One row is written on. -/
theorem Own.touch (h : Own w base (A ++ r :: B)) (ht : Tch w w' r.v.ownBlock r'.v.ownBlock) (hr : w'.ownsRow base r'.e r'.sz r'.v r'.n r'.xs) : Own w' base (A ++ r' :: B) := by
  obtain ⟨ha, hb⟩ := h.mid
  obtain ⟨p1, p2, p3⟩ := List.pairwise_append.1 h.ap
  have kept : ∀ x, x ∈ A ∨ x ∈ B → w'.ownsRow base x.e x.sz x.v x.n x.xs := by
    intro x hx
    refine ht.own (h.own x (by rcases hx with hx | hx <;> simp [hx])) fun b hb1 h2 => ?_
    rcases hx with hx | hx
    · exact ha x hx b hb1 h2
    · exact hb x hx b hb1 h2
  have far : ∀ x, x ∈ A ∨ x ∈ B → Ap x.v r'.v := by
    intro x hx
    have hm : x ∈ A ++ r :: B := by rcases hx with hx | hx <;> simp [hx]
    rcases hx with hx | hx
    · exact Ap.touch (ha x hx) (fun b hb => (h.lt hm b hb).2) ht
    · exact Ap.touch (hb x hx) (fun b hb => (h.lt hm b hb).2) ht
  refine ⟨fun x hx => ?_, List.pairwise_append.2 ⟨p1, List.pairwise_cons.2 ⟨fun x hx => (far x (.inr hx)).symm, (List.pairwise_cons.1 p2).2⟩, ?_⟩⟩
  · rcases List.mem_append.1 hx with hx | hx
    · exact kept x (.inl hx)
    · rcases List.mem_cons.1 hx with rfl | hx
      · exact hr
      · exact kept x (.inr hx)
  · intro x hx y hy
    rcases List.mem_cons.1 hy with rfl | hy
    · exact far x (.inl hx)
    · exact p3 x hx y (by simp [hy])
/-- What a row's writing leaves. -/
theorem Own.but (h : Own w base l) (hm : r ∈ l) (ht : Tch w w' r.v.ownBlock r'.v.ownBlock) (hN : N ≤ base) (hs : N ≤ w.heap.size) : Below N w w' := by
  refine (ht.but (C := fun k => r.v.ownBlock = some k) (But.refl _ w) fun k hk _ => hk).below hs fun k hk => ?_
  have := (h.lt hm k hk).1
  omega
/-- A row more. -/
theorem Own.add (h : Own w base (A ++ B)) (hr : w.ownsRow base r.e r.sz r.v r.n r.xs) (hf : ∀ x, x ∈ A ∨ x ∈ B → Ap x.v r.v) : Own w base (A ++ r :: B) := by
  obtain ⟨p1, p2, p3⟩ := List.pairwise_append.1 h.ap
  refine ⟨fun x hx => ?_, List.pairwise_append.2 ⟨p1, List.pairwise_cons.2 ⟨fun x hx => (hf x (.inr hx)).symm, p2⟩, ?_⟩⟩
  · rcases List.mem_append.1 hx with hx | hx
    · exact h.own x (by simp [hx])
    · rcases List.mem_cons.1 hx with rfl | hx
      · exact hr
      · exact h.own x (by simp [hx])
  · intro x hx y hy
    rcases List.mem_cons.1 hy with rfl | hy
    · exact hf x (.inl hx)
    · exact p3 x hx y hy
theorem own_base {e : TypeId} {sz n base' : Nat} {v : Value} {xs : List Value} (h : w.ownsRow base' e sz v n xs) (hb : base ≤ base') : w.ownsRow base e sz v n xs := by
  refine ⟨h.1, ?_⟩
  rcases h.2 with h2 | ⟨g, cap, cur, h1, h2, h3⟩
  · exact .inl h2
  · exact .inr ⟨g, cap, cur, h1, by omega, h3⟩
theorem Ap.fresh {u v : Value} {N : Nat} (h1 : ∀ b, u.ownBlock = some b → b < N) (h2 : ∀ b, v.ownBlock = some b → N ≤ b) : Ap u v := fun b hb hv => by have := h1 b hb; have := h2 b hv; omega
/-- A row more, that was made since. -/
theorem Own.addNew (h : Own w base (A ++ B)) (hb : Below w.heap.size w w') (hbs : base ≤ w.heap.size) (hr : w'.ownsRow w.heap.size r.e r.sz r.v r.n r.xs) : Own w' base (A ++ r :: B) :=
  (h.grow hb).add (own_base hr hbs) fun x hx => Ap.fresh (N := w.heap.size) (fun b hb => (h.lt (by rcases hx with hx | hx <;> simp [hx]) b hb).2) fun b hb => (hr.lt b hb).1
end

/-! ### Code in memory -/
def strV (b : Bs) : Value := .string ⟨b.toArray⟩
def inC (i : In) : List Value := [.int .i8 i.op, .int .i64 i.a, .int .i64 i.b]
def ndC (n : Nd) : List Value := [.int .i8 n.op, .int .i64 n.proj, .bool n.inj, .int .u8 n.head, .int .i64 n.lab, .int .u8 n.from_, .int .u8 n.to_]
/-- A function, a cast that lie somewhere. -/
structure FuL where
  ev : Value
  f : Fu
  cv : Value
structure WtL where
  w : Wt
  cv : Value
def FuL.cells (g : FuL) : List Value := [g.ev, strV g.f.param, strV g.f.res, g.cv]
def WtL.cells (g : WtL) : List Value := [strV g.w.f, strV g.w.t, g.cv]
structure CoL where
  fns : List FuL
  casts : List WtL
  nums : List Int
  texts : List Bs
  types : List Bs
  fv : Value
  cv : Value
  nv : Value
  tv : Value
  yv : Value
def CoL.code (L : CoL) : Cod := ⟨L.fns.map (·.f), L.casts.map (·.w), L.nums, L.texts, L.types⟩
def CoL.vals (L : CoL) : List Value := [L.fv, L.cv, L.nv, L.tv, L.yv]
def envC (l : List Bs) : List Value := l.map strV
def codC (l : List In) : List Value := l.flatMap inC
def cosC (l : List Nd) : List Value := l.flatMap ndC
def numC (l : List Int) : List Value := l.map fun n => .int .i64 n
/-- A slice that may be read, wherever it begins in its block. -/
def Rs (w : World) (sz : Nat) (u : Value) (n : Nat) (xs : List Value) : Prop := ∃ A c, u = .slice A n c ∧ n ≤ c ∧ c ≤ maxLen ∧ Sl w w.heap.size sz A n xs
theorem Rs.sl {w : World} {sz n : Nat} {u : Value} {xs : List Value} (h : Rs w sz u n xs) : ∃ A c, u = .slice A n c ∧ n ≤ c ∧ c ≤ maxLen ∧ Sl w w.heap.size sz A n xs := h
theorem Rs.grow {w w' : World} {sz n : Nat} {u : Value} {xs : List Value} (h : Rs w sz u n xs) (hb : Below w.heap.size w w') : Rs w' sz u n xs := by
  obtain ⟨A, c, e, h1, h2, h3⟩ := h
  exact ⟨A, c, e, h1, h2, (h3.below hb).more hb.size⟩
theorem rd_rs {w : World} {sz n : Nat} {u : Value} {xs : List Value} (h : Rd w sz u n xs) : Rs w sz u n xs := h.sl
/-- Code that may be read. -/
structure CR (w : World) (L : CoL) : Prop where
  f : Rs w 4 L.fv L.fns.length (L.fns.flatMap FuL.cells)
  c : Rs w 3 L.cv L.casts.length (L.casts.flatMap WtL.cells)
  n : Rs w 1 L.nv L.nums.length (numC L.nums)
  t : Rs w 1 L.tv L.texts.length (envC L.texts)
  y : Rs w 1 L.yv L.types.length (envC L.types)
  fe : ∀ g ∈ L.fns, Rs w 1 g.ev g.f.env.length (envC g.f.env)
  fc : ∀ g ∈ L.fns, Rs w 3 g.cv g.f.code.length (codC g.f.code)
  co : ∀ g ∈ L.casts, Rs w 7 g.cv g.w.co.length (cosC g.w.co)
theorem CR.grow {w w' : World} {L : CoL} (h : CR w L) (hb : Below w.heap.size w w') : CR w' L :=
  ⟨h.f.grow hb, h.c.grow hb, h.n.grow hb, h.t.grow hb, h.y.grow hb, fun g hg => (h.fe g hg).grow hb, fun g hg => (h.fc g hg).grow hb, fun g hg => (h.co g hg).grow hb⟩
/-- Rows of code that is owned. -/
def FuL.rws (g : FuL) : List Rw := [⟨9, 1, g.ev, g.f.env.length, envC g.f.env⟩, ⟨92, 3, g.cv, g.f.code.length, codC g.f.code⟩]
def WtL.rw (g : WtL) : Rw := ⟨86, 7, g.cv, g.w.co.length, cosC g.w.co⟩
def CoL.rws (L : CoL) : List Rw :=
  ⟨90, 4, L.fv, L.fns.length, L.fns.flatMap FuL.cells⟩ :: ⟨84, 3, L.cv, L.casts.length, L.casts.flatMap WtL.cells⟩ :: ⟨2, 1, L.nv, L.nums.length, numC L.nums⟩ ::
  ⟨9, 1, L.tv, L.texts.length, envC L.texts⟩ :: ⟨9, 1, L.yv, L.types.length, envC L.types⟩ :: (L.fns.flatMap FuL.rws ++ L.casts.map WtL.rw)
theorem CR.of_own {w : World} {base : Nat} {L : CoL} (h : ∀ r ∈ L.rws, w.ownsRow base r.e r.sz r.v r.n r.xs) : CR w L := by
  refine ⟨rd_rs (Rd.of_own (h ⟨_, _, _, _, _⟩ (List.mem_cons_self ..))), ?_, ?_, ?_, ?_, fun g hg => ?_, fun g hg => ?_, fun g hg => ?_⟩
  · exact rd_rs <| Rd.of_own (h ⟨84, 3, L.cv, L.casts.length, L.casts.flatMap WtL.cells⟩ (by simp [CoL.rws]))
  · exact rd_rs <| Rd.of_own (h ⟨2, 1, L.nv, L.nums.length, numC L.nums⟩ (by simp [CoL.rws]))
  · exact rd_rs <| Rd.of_own (h ⟨9, 1, L.tv, L.texts.length, envC L.texts⟩ (by simp [CoL.rws]))
  · exact rd_rs <| Rd.of_own (h ⟨9, 1, L.yv, L.types.length, envC L.types⟩ (by simp [CoL.rws]))
  · refine rd_rs <| Rd.of_own (h ⟨9, 1, g.ev, g.f.env.length, envC g.f.env⟩ ?_)
    simp only [CoL.rws, List.mem_cons, List.mem_append, List.mem_flatMap]
    exact .inr (.inr (.inr (.inr (.inr (.inl ⟨g, hg, by simp [FuL.rws]⟩)))))
  · refine rd_rs <| Rd.of_own (h ⟨92, 3, g.cv, g.f.code.length, codC g.f.code⟩ ?_)
    simp only [CoL.rws, List.mem_cons, List.mem_append, List.mem_flatMap]
    exact .inr (.inr (.inr (.inr (.inr (.inl ⟨g, hg, by simp [FuL.rws]⟩)))))
  · refine rd_rs <| Rd.of_own (h g.rw ?_)
    simp only [CoL.rws, List.mem_cons, List.mem_append, List.mem_map]
    exact .inr (.inr (.inr (.inr (.inr (.inr ⟨g, hg, rfl⟩)))))
end Go.Proofs.YtobplngonkdbpaaGreatDoor.D
