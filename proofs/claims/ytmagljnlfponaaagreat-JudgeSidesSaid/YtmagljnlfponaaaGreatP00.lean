/- Parts of this claim: Base, Ty, TyA, TyB, TyC, RelT. -/
import Derived.WalkKit
import Derived.Maps.AppendAt
import Derived.Lib.Hide
import Derived.WalkSmall
import Derived.Laws.OwnMore
import Derived.OwnWalk
import Derived.Deep.AppendLies
import Derived.WalkLawsBesides
import Derived.WalkSpells
import Derived.Deep.QuietTactic
import Derived.BigQuiet
import Derived.Lib.Strings
import Derived.Test.YtmagljnlfponaaaGreatProg
set_option linter.unusedVariables false
set_option linter.unusedSimpArgs false
/- Base -/
namespace Go.Proofs.YtmagljnlfponaaaGreat.B
open Go.RowKit

/-- The head A of a slice with n elements of sz cells each: the cells are xs; the block lies below B. -/
def Sl (w : World) (B sz : Nat) (A : Option Addr) (n : Nat) (xs : List Value) : Prop :=
  xs.length = n * sz ∧ (n = 0 ∨ ∃ b o, A = some ⟨b, o, none⟩ ∧ b < B ∧ ∀ j u, xs[j]? = some u → w.cell? ⟨b, o + j, none⟩ = some u)

theorem add_flat (b o j : Nat) : (⟨b, o, none⟩ : Addr).add j = ⟨b, o + j, none⟩ := by
  unfold Addr.add; split <;> simp_all

theorem bcell {W w1 : World} (hb : Below W.heap.size W w1) : (∀ b o, b < W.heap.size → w1.cell? ⟨b, o, none⟩ = W.cell? ⟨b, o, none⟩) ∧ (∀ b o, b < W.heap.size → w1.frozen? ⟨b, o, none⟩ = W.frozen? ⟨b, o, none⟩) :=
  ⟨fun b o h => hb.cell (p := ⟨b, o, none⟩) h, fun b o h => hb.frozen (p := ⟨b, o, none⟩) h⟩

section
variable {w w' : World} {B B' sz n : Nat} {A : Option Addr} {xs : List Value}

theorem Sl.len (h : Sl w B sz A n xs) : xs.length = n * sz := h.1
theorem Sl.nil (w : World) (B sz : Nat) (A : Option Addr) : Sl w B sz A 0 [] := ⟨by simp, .inl rfl⟩
theorem Sl.keep (h : Sl w B sz A n xs) (hk : ∀ p : Addr, p.block < B → w'.cell? p = w.cell? p) : Sl w' B sz A n xs := by
  refine ⟨h.1, ?_⟩
  rcases h.2 with h0 | ⟨b, o, rfl, hb, hc⟩
  · exact .inl h0
  · exact .inr ⟨b, o, rfl, hb, fun j u hu => (hk ⟨b, o + j, none⟩ hb).trans (hc j u hu)⟩
theorem Sl.more (h : Sl w B sz A n xs) (hB : B ≤ B') : Sl w B' sz A n xs := by
  refine ⟨h.1, ?_⟩
  rcases h.2 with h0 | ⟨b, o, rfl, hb, hc⟩
  · exact .inl h0
  · exact .inr ⟨b, o, rfl, by omega, hc⟩
theorem Sl.below (h : Sl w B sz A n xs) (hb : Below B w w') : Sl w' B sz A n xs := h.keep fun _ hp => hb.cell hp
theorem Sl.drew (h : Sl w B sz A n xs) : Sl w.drew B sz A n xs := h
theorem Sl.drewN (h : Sl w B sz A n xs) (k : Nat) : Sl (w.drewN k) B sz A n xs := h
theorem Sl.alloc (h : Sl w B sz A n xs) (hB : B ≤ w.heap.size) (o : Obj) : Sl (w.alloc o) B sz A n xs := h.keep fun p hp => World.cell?_alloc_lt w o p (by omega)
theorem Sl.setCell (h : Sl w B sz A n xs) {p : Addr} (hB : B ≤ p.block) (u : Value) : Sl (w.setCell p u) B sz A n xs :=
  h.keep fun q hq => World.cell?_setCell_other w p q u (fun e => by subst e; omega)
/-- Cell j of element k. -/
theorem Sl.at_ (h : Sl w B sz A n xs) (hn : 0 < n) : ∃ b o, A = some ⟨b, o, none⟩ ∧ b < B ∧ ∀ j u, xs[j]? = some u → w.cell? ⟨b, o + j, none⟩ = some u := by
  rcases h.2 with h0 | h1
  · omega
  · exact h1
theorem Sl.of_own {base : Nat} {e : TypeId} {v : Value} (h : w.ownsRow base e sz v n xs) : ∃ A c, v = .slice A n c ∧ n ≤ c ∧ c ≤ maxLen ∧ Sl w w.heap.size sz A n xs := by
  rcases h.2 with ⟨rfl, rfl⟩ | ⟨g, cap, cur, rfl, hbg, hg, hnc, hcm, hcs, htake⟩
  · have hx : xs = [] := List.eq_nil_of_length_eq_zero (by simpa using h.1)
    subst hx
    exact ⟨none, 0, rfl, Nat.le_refl _, by unfold maxLen; omega, Sl.nil _ _ _ _⟩
  · refine ⟨_, _, rfl, hnc, hcm, h.1, .inr ⟨g, 0, rfl, (Array.getElem?_eq_some_iff.1 hg).1, fun j u hu => ?_⟩⟩
    have := h.cells (g := g) rfl j u hu
    rwa [add_flat] at this
end

/-- The row of one element that append's own argument is laid in. -/
theorem Sl.one (w : World) (v : Value) (T : TypeId) : Sl (w.alloc (.cells #[v] T)) (w.heap.size + 1) 1 (some ⟨w.heap.size, 0, none⟩) 1 [v] := by
  refine ⟨rfl, .inr ⟨w.heap.size, 0, rfl, by omega, fun j u hu => ?_⟩⟩
  match j, hu with
  | 0, hu => simp at hu; subst hu; simp

section
variable {P : Program} (w : World)

theorem run_append_none (base : Nat) (t ty e : TypeId) (i : TypeInfo) (size : Nat) (ht : P.underlying t = some (.slice e)) (hi : P.info? e = some i)
    (v : Value) (n : Nat) (xs : List Value) (hown : w.ownsRow base e size v n xs) (c : Nat) : (Builtin.append_ #[t, t] ty #[v, .slice none 0 c]).run P w = .ok v w := by
  rcases hown.2 with ⟨rfl, rfl⟩ | ⟨g, cap, cur, rfl, _, _, hnc, _⟩
  · simp [Builtin.append_, run_underlying ht, sizeOf, typeInfo, hi, Builtin.lenOf, Builtin.firstCells]
  · simp [Builtin.append_, run_underlying ht, sizeOf, typeInfo, hi, Builtin.lenOf, Builtin.firstCells, hnc, storeCells]

theorem run_append_sl (base : Nat) (t ty e : TypeId) (i : TypeInfo) (z : Value) (size bytes : Nat) (ht : P.underlying t = some (.slice e)) (hi : P.info? e = some i) (hz : i.zero = some z)
    (hsize : i.size = size) (hby : i.bytes = bytes) (hzs : z.cells.size = size) (hsz : 0 < size)
    (v : Value) (n : Nat) (xs : List Value) (hown : w.ownsRow base e size v n xs)
    (B : Nat) (A : Option Addr) (m c : Nat) (news : List Value) (hr : Sl w B size A m news) (h1 : ∀ u ∈ news, u.oneCell' = true)
    (h63 : n + m ≤ maxLen) (hbytes : (n + m) * bytes ≤ 140737488355328) (hbase : base ≤ w.heap.size) :
    ∃ v' w', (Builtin.append_ #[t, t] ty #[v, .slice A m c]).run P w = .ok v' w' ∧ w'.ownsRow base e size v' (n + m) (xs ++ news) ∧ w.grownBy w' v.ownBlock ∧
      (v'.ownBlock = v.ownBlock ∨ v'.ownBlock = some w.heap.size) := by
  rcases A with _ | ad
  · have hm : m = 0 := by
      rcases hr.2 with h0 | ⟨b, o, h, _⟩
      · exact h0
      · cases h
    subst hm
    have hn : news = [] := List.eq_nil_of_length_eq_zero (by simpa using hr.1)
    subst hn
    exact ⟨v, w, run_append_none w base t ty e i size ht hi v n xs hown c, by simpa using hown, ⟨rfl, rfl, rfl, Nat.le_refl _, fun _ _ _ => rfl⟩, .inl rfl⟩
  · have hcells : ∀ j u, news[j]? = some u → w.cell? (ad.add j) = some u := by
      intro j u hu
      rcases hr.2 with h0 | ⟨b, o, h, _, hc⟩
      · subst h0
        have hn : news = [] := List.eq_nil_of_length_eq_zero (by simpa using hr.1)
        subst hn
        simp at hu
      · injection h with h
        subst h
        rw [add_flat]
        exact hc j u hu
    obtain ⟨v', w', hrun, h2, h3, _, h5⟩ := run_append_own_at (P := P) w base t ty e i z size bytes ht hi hz hsize hby hzs hsz v n xs hown ad m c news hr.1 hcells h1 h63 hbytes hbase
    exact ⟨v', w', hrun, h2, h3, h5⟩

theorem wp_append_sl {o : Oper} {a : Act} {K : Act → World → Prop} {Q : Exit → Act → World → Prop} (s x : Operand) (t : TypeId)
    (ho : o.op = .call { callee := .builtin .append, args := #[s, x], argTypes := #[t, t] })
    (base : Nat) (e : TypeId) (i : TypeInfo) (z : Value) (size bytes : Nat) (ht : P.underlying t = some (.slice e)) (hi : P.info? e = some i) (hz : i.zero = some z)
    (hsize : i.size = size) (hby : i.bytes = bytes) (hzs : z.cells.size = size) (hsz : 0 < size)
    (v : Value) (n : Nat) (xs : List Value) (hs : a.eval s = v) (hown : w.ownsRow base e size v n xs)
    (B : Nat) (A : Option Addr) (m c : Nat) (news : List Value) (hx : a.eval x = .slice A m c) (hr : Sl w B size A m news) (h1 : ∀ u ∈ news, u.oneCell' = true)
    (h63 : n + m ≤ maxLen) (hbytes : (n + m) * bytes ≤ 140737488355328) (hbase : base ≤ w.heap.size)
    (h : ∀ v' w', w'.ownsRow base e size v' (n + m) (xs ++ news) → w.grownBy w' v.ownBlock → (v'.ownBlock = v.ownBlock ∨ v'.ownBlock = some w.heap.size) → K (a.put o.dst v') w') : o.wp P a w K Q := by
  obtain ⟨v', w', hrun, h2, h3, h4⟩ := run_append_sl (P := P) w base t o.type e i z size bytes ht hi hz hsize hby hzs hsz v n xs hown B A m c news hr h1 h63 hbytes hbase
  unfold Oper.wp execOp
  simp only [ho, resolve, invoke, builtin, Sem.run_bind, Sem.run_pure, Result.andThen_ok, List.map_toArray, List.map_cons, List.map_nil, hs, hx, hrun]
  exact h v' w' h2 h3 h4

theorem wpList_append_sl {ops : Array Oper} {rest : List Oper} {o : Oper} {a : Act} {Q : Exit → Act → World → Prop} (hgd : o.guard = none) (s x : Operand) (t : TypeId)
    (ho : o.op = .call { callee := .builtin .append, args := #[s, x], argTypes := #[t, t] })
    (base : Nat) (e : TypeId) (i : TypeInfo) (z : Value) (size bytes : Nat) (ht : P.underlying t = some (.slice e)) (hi : P.info? e = some i) (hz : i.zero = some z)
    (hsize : i.size = size) (hby : i.bytes = bytes) (hzs : z.cells.size = size) (hsz : 0 < size)
    (v : Value) (n : Nat) (xs : List Value) (hs : a.eval s = v) (hown : w.ownsRow base e size v n xs)
    (B : Nat) (A : Option Addr) (m c : Nat) (news : List Value) (hx : a.eval x = .slice A m c) (hr : Sl w B size A m news) (h1 : ∀ u ∈ news, u.oneCell' = true)
    (h63 : n + m ≤ maxLen) (hbytes : (n + m) * bytes ≤ 140737488355328) (hbase : base ≤ w.heap.size)
    (h : ∀ v' w', w'.ownsRow base e size v' (n + m) (xs ++ news) → w.grownBy w' v.ownBlock → (v'.ownBlock = v.ownBlock ∨ v'.ownBlock = some w.heap.size) → wpList P ops Q rest (a.put o.dst v') w') : wpList P ops Q (o :: rest) a w :=
  wpList_plain hgd fun _ hK => wp_append_sl w s x t ho base e i z size bytes ht hi hz hsize hby hzs hsz v n xs hs hown B A m c news hx hr h1 h63 hbytes hbase fun v' w' h2 h3 h4 => hK _ _ (h v' w' h2 h3 h4)
end

theorem step_append_sl {P : Program} {w : World} {ops : Array Oper} {o : Oper} {a : Act} {K : Act → World → Prop} {Q : Exit → Act → World → Prop} {E : Prop} (hgd : o.guard = none) (s x : Operand) (t : TypeId)
    (ho : o.op = .call { callee := .builtin .append, args := #[s, x], argTypes := #[t, t] })
    (base : Nat) (e : TypeId) (i : TypeInfo) (z : Value) (size bytes : Nat) (ht : P.underlying t = some (.slice e)) (hi : P.info? e = some i) (hz : i.zero = some z)
    (hsize : i.size = size) (hby : i.bytes = bytes) (hzs : z.cells.size = size) (hsz : 0 < size)
    (v : Value) (n : Nat) (xs : List Value) (hs : a.eval s = v) (hown : w.ownsRow base e size v n xs)
    (B : Nat) (A : Option Addr) (m c : Nat) (news : List Value) (hx : a.eval x = .slice A m c) (hr : Sl w B size A m news) (h1 : ∀ u ∈ news, u.oneCell' = true)
    (h63 : n + m ≤ maxLen) (hbytes : (n + m) * bytes ≤ 140737488355328) (hbase : base ≤ w.heap.size)
    (h : ∀ v' w', w'.ownsRow base e size v' (n + m) (xs ++ news) → w.grownBy w' v.ownBlock → (v'.ownBlock = v.ownBlock ∨ v'.ownBlock = some w.heap.size) → K (a.put o.dst v') w') :
    if Region.wanted o (yielded ops a.tmps) = true then Oper.wp P o a w K Q else E := by
  have hw : Region.wanted o (yielded ops a.tmps) = true := by simp [Region.wanted, hgd]
  rw [if_pos hw]
  exact wp_append_sl w s x t ho base e i z size bytes ht hi hz hsize hby hzs hsz v n xs hs hown B A m c news hx hr h1 h63 hbytes hbase h

/-! ### Rows of the call's own, several at once -/
section
variable {w w' : World} {base n : Nat} {e : TypeId} {sz : Nat} {v l l' : Value} {xs : List Value}
theorem own_below (h : w.ownsRow base e sz v n xs) (hb : Below w.heap.size w w') : w'.ownsRow base e sz v n xs := by
  refine ⟨h.1, ?_⟩
  rcases h.2 with h2 | ⟨g, cap, cur, hv, hbg, hg, r⟩
  · exact .inl h2
  · exact .inr ⟨g, cap, cur, hv, hbg, (hb.block g (Array.getElem?_eq_some_iff.1 hg).1).trans hg, r⟩
theorem own_drewN (h : w.ownsRow base e sz v n xs) (k : Nat) : (w.drewN k).ownsRow base e sz v n xs := h
theorem own_less {base' : Nat} (h : w.ownsRow base e sz v n xs) (hb : base' ≤ base) : w.ownsRow base' e sz v n xs := by
  refine ⟨h.1, ?_⟩
  rcases h.2 with h2 | ⟨g, cap, cur, hv, hbg, r⟩
  · exact .inl h2
  · exact .inr ⟨g, cap, cur, hv, by omega, r⟩
theorem own_shape (h : w.ownsRow base e sz v n xs) : ∃ A c, v = .slice A n c ∧ n ≤ c ∧ c ≤ maxLen := by
  obtain ⟨A, c, h1, h2, h3, _⟩ := Sl.of_own h
  exact ⟨A, c, h1, h2, h3⟩
theorem own_cell {A : Option Addr} {c k : Nat} (h : w.ownsRow base e 1 (.slice A n c) n xs) (hk : k < n) :
    ∃ g, A = some ⟨g, 0, none⟩ ∧ base ≤ g ∧ g < w.heap.size ∧ ∀ u, xs[k]? = some u → w.cell? ⟨g, k, none⟩ = some u := by
  obtain ⟨g, cap, hv, hb, hlt⟩ := h.form (by omega)
  injection hv with hA _ _
  refine ⟨g, hA, hb, hlt, fun u hu => ?_⟩
  subst hA
  have := h.cells (g := g) rfl k u hu
  rwa [add_flat, Nat.zero_add] at this

/-- Two rows of the call's own do not share their memory. -/
def Apart (v l : Value) : Prop := v.ownBlock = none ∨ v.ownBlock ≠ l.ownBlock
theorem Apart.nil (v : Value) : Apart v (.slice none 0 0) := by
  rcases h : v.ownBlock with _ | g
  · exact .inl h
  · right; rw [h]; simp [Value.ownBlock]
theorem Apart.next (h : Apart v l) (hv : w.ownsRow base e sz v n xs) (h' : l'.ownBlock = l.ownBlock ∨ l'.ownBlock = some w.heap.size) : Apart v l' := by
  rcases h with h | h
  · exact .inl h
  · right
    rcases h' with h' | h'
    · rw [h']; exact h
    · rw [h']
      intro he
      have := (hv.lt _ he).2
      omega
/-- A row that is made later than another. -/
theorem Apart.later (hl : w.ownsRow base e sz l n xs) {base' e' sz' n' : Nat} {ys : List Value} (hv : w'.ownsRow base' e' sz' v n' ys) (hb : w.heap.size ≤ base') : Apart v l := by
  rcases hvb : v.ownBlock with _ | g
  · exact .inl hvb
  · right
    rw [hvb]
    intro he
    have h1 := (hv.lt _ hvb).1
    have h2 := (hl.lt _ he.symm).2
    omega
end

/-- Behind a contract that keeps what lay below its start: what lay below an earlier start is kept too. -/
theorem below_from {B : Nat} {a w w' : World} (h : Below B a w) (hb : Below w.heap.size w w') (hB : B ≤ w.heap.size) : Below B a w' := h.trans (hb.mono hB)

theorem bl {a w w' : World} (h : Below a.heap.size a w) (hb : Below w.heap.size w w') : Below a.heap.size a w' := below_from h hb h.size
theorem bal {a w : World} (h : Below a.heap.size a w) (o : Obj) : Below a.heap.size a (w.alloc o) := h.alloc h.size o
theorem bdr {a w : World} (h : Below a.heap.size a w) (n : Nat) : Below a.heap.size a (w.drewN n) := below_drewN h n
theorem b0 {a : World} : Below a.heap.size a a := Below.refl _ _

end Go.Proofs.YtmagljnlfponaaaGreat.B

/- Ty -/
namespace Go.Proofs.YtmagljnlfponaaaGreat.T

/-- How many parts a letter's head has; -1: it is none. -/
def ar (c : Int) : Int := if c = 105 ∨ c = 98 ∨ c = 116 ∨ c = 63 then 0 else if c = 108 ∨ c = 120 then 1 else if c = 62 ∨ c = 44 then 2 else -1
def arB (c : UInt8) : Int := ar c.toNat

theorem ar_lo (c : Int) : -1 ≤ ar c ∧ ar c ≤ 2 := by unfold ar; repeat' split
                                                     all_goals omega

inductive Ty where
  | leaf (h : UInt8)
  | un (h : UInt8) (a : Ty)
  | bin (h : UInt8) (a b : Ty)

namespace Ty
def ok : Ty → Prop
  | leaf h => arB h = 0
  | un h a => arB h = 1 ∧ a.ok
  | bin h a b => arB h = 2 ∧ a.ok ∧ b.ok
def code : Ty → List UInt8
  | leaf h => [h]
  | un h a => h :: a.code
  | bin h a b => h :: (a.code ++ b.code)
def head : Ty → UInt8
  | leaf h => h
  | un h _ => h
  | bin h _ _ => h
def kids : Ty → List Ty
  | leaf _ => []
  | un _ a => [a]
  | bin _ a b => [a, b]
def high : Ty → Nat
  | leaf _ => 1
  | un _ a => a.high + 1
  | bin _ a b => max a.high b.high + 1
theorem code_pos (t : Ty) : 0 < t.code.length := by cases t <;> simp [code]
theorem code_head (t : Ty) : t.code.head? = some t.head := by cases t <;> rfl
theorem code_eq (t : Ty) : t.code = t.head :: t.kids.flatMap code := by cases t <;> simp [code, head, kids]
theorem kids_ok {t k : Ty} (h : t.ok) (hk : k ∈ t.kids) : k.ok := by
  cases t <;> simp only [kids, List.not_mem_nil, List.mem_cons, or_false] at hk
  · subst hk; exact h.2
  · rcases hk with rfl | rfl
    · exact h.2.1
    · exact h.2.2
theorem kid_code {t k : Ty} (hk : k ∈ t.kids) : k.code.length < t.code.length := by
  cases t <;> simp only [kids, List.not_mem_nil, List.mem_cons, or_false] at hk
  · subst hk; simp [code]
  · rcases hk with rfl | rfl <;> simp [code] <;> omega
theorem kids_le (t : Ty) : t.kids.length ≤ 2 := by cases t <;> simp [kids]
theorem ar_head {t : Ty} (h : t.ok) : arB t.head = t.kids.length := by
  cases t
  · exact h
  · exact h.1
  · exact h.1
end Ty

/-- skip: how many letters on, and whether a type goes on there. -/
def skipN : List UInt8 → Nat → Nat × Bool
  | _, 0 => (0, true)
  | [], _ + 1 => (0, false)
  | c :: l, n + 1 => if arB c < 0 then (0, false) else ((skipN l (n + (arB c).toNat)).1 + 1, (skipN l (n + (arB c).toNat)).2)

theorem skipN_le (l : List UInt8) : ∀ n, (skipN l n).1 ≤ l.length := by
  induction l with
  | nil => intro n; cases n <;> simp [skipN]
  | cons c l ih =>
    intro n
    cases n with
    | zero => simp [skipN]
    | succ n =>
      simp only [skipN]
      split
      · simp
      · simpa using ih _

theorem skipN_code (t : Ty) : t.ok → ∀ (r : List UInt8) (n : Nat), skipN (t.code ++ r) (n + 1) = ((skipN r n).1 + t.code.length, (skipN r n).2) := by
  induction t with
  | leaf h =>
    intro hk r n
    have ha : arB h = 0 := hk
    simp [Ty.code, skipN, ha]
  | un h a ih =>
    intro hk r n
    have ha : arB h = 1 := hk.1
    simp only [Ty.code, List.cons_append, skipN, ha]
    rw [if_neg (by omega), show n + (1 : Int).toNat = n + 1 from rfl, ih hk.2]
    simp [Nat.add_assoc]
  | bin h a b iha ihb =>
    intro hk r n
    have ha : arB h = 2 := hk.1
    simp only [Ty.code, List.cons_append, List.append_assoc, skipN, ha]
    rw [if_neg (by omega), show n + (2 : Int).toNat = (n + 1) + 1 from rfl, iha hk.2.1, ihb hk.2.2]
    simp only [List.length_cons, List.length_append]
    exact Prod.ext (by simp only; omega) rfl

/-- What skip takes as n types is the letters of n types. -/
theorem skipN_types (l : List UInt8) : ∀ n, (skipN l n).2 = true → ∃ ts : List Ty, ts.length = n ∧ (∀ t ∈ ts, t.ok) ∧ ∃ r, l = ts.flatMap Ty.code ++ r ∧ (skipN l n).1 = (ts.flatMap Ty.code).length := by
  induction l with
  | nil =>
    intro n h
    cases n with
    | zero => exact ⟨[], rfl, by simp, [], by simp, by simp [skipN]⟩
    | succ n => simp [skipN] at h
  | cons c l ih =>
    intro n h
    cases n with
    | zero => exact ⟨[], rfl, by simp, c :: l, by simp, by simp [skipN]⟩
    | succ n =>
      simp only [skipN] at h ⊢
      split at h
      · simp at h
      · rename_i hc
        rw [if_neg hc]
        obtain ⟨ts, hl, hok, r, e, he⟩ := ih _ h
        have hb := ar_lo c.toNat
        have hcase : arB c = 0 ∨ arB c = 1 ∨ arB c = 2 := by unfold arB at *; omega
        rcases hcase with ha | ha | ha
        · rw [ha] at hl he
          refine ⟨.leaf c :: ts, by simp only [List.length_cons, hl]; omega, ?_, r, ?_, ?_⟩
          · intro t ht
            rcases List.mem_cons.1 ht with rfl | ht
            · exact ha
            · exact hok t ht
          · simp [Ty.code, e]
          · rw [ha, he]; simp [Ty.code]
        · rw [ha] at hl he
          match ts, hl with
          | a :: ts, hl =>
            refine ⟨.un c a :: ts, by simp at hl ⊢; omega, ?_, r, ?_, ?_⟩
            · intro t ht
              rcases List.mem_cons.1 ht with rfl | ht
              · exact ⟨ha, hok a (by simp)⟩
              · exact hok t (by simp [ht])
            · simp [Ty.code, e]
            · rw [ha, he]; simp [Ty.code]
        · rw [ha] at hl he
          match ts, hl with
          | a :: b :: ts, hl =>
            refine ⟨.bin c a b :: ts, by simp at hl ⊢; omega, ?_, r, ?_, ?_⟩
            · intro t ht
              rcases List.mem_cons.1 ht with rfl | ht
              · exact ⟨ha, hok a (by simp), hok b (by simp)⟩
              · exact hok t (by simp [ht])
            · simp [Ty.code, e]
            · rw [ha, he]; simp [Ty.code]

/-- Check, on letters: the error and the place. -/
def checkL (l : List UInt8) : Nat × Nat := if 64 < l.length then (21, 64) else if (skipN l 1).2 = false ∨ (skipN l 1).1 < l.length then (20, (skipN l 1).1) else (0, 0)

theorem check_ok {l : List UInt8} : (checkL l).1 = 0 ↔ ∃ t : Ty, t.ok ∧ t.code = l ∧ l.length ≤ 64 := by
  unfold checkL
  constructor
  · intro h
    split at h
    · simp at h
    · rename_i h64
      split at h
      · simp at h
      · rename_i hs
        have h1 : (skipN l 1).2 = true := by cases hb : (skipN l 1).2 <;> simp_all
        have h2 : l.length ≤ (skipN l 1).1 := by
          rcases Nat.lt_or_ge (skipN l 1).1 l.length with h | h
          · exact absurd (Or.inr h) hs
          · exact h
        obtain ⟨ts, hl, hok, r, e, he⟩ := skipN_types l 1 h1
        match ts, hl with
        | [t], _ =>
          simp only [List.flatMap_cons, List.flatMap_nil, List.append_nil] at e he
          have hr : r = [] := by
            apply List.eq_nil_of_length_eq_zero
            have := congrArg List.length e
            simp only [List.length_append] at this
            omega
          subst hr
          exact ⟨t, hok t (by simp), by rw [e]; simp, by omega⟩
  · rintro ⟨t, hok, rfl, h64⟩
    have := skipN_code t hok [] 0
    simp only [List.append_nil, skipN] at this
    rw [if_neg (by omega), this]
    simp

theorem check_code {t : Ty} (h : t.ok) (h64 : t.code.length ≤ 64) : checkL t.code = (0, 0) := by
  have h1 : (checkL t.code).1 = 0 := check_ok.2 ⟨t, h, rfl, h64⟩
  have := skipN_code t h [] 0
  simp only [List.append_nil, skipN] at this
  unfold checkL
  rw [if_neg (by omega), this]
  simp

theorem code_inj {t u : Ty} (ht : t.ok) (hu : u.ok) (h : t.code = u.code) : t = u := by
  suffices H : ∀ (t : Ty), t.ok → ∀ (u : Ty) (r s : List UInt8), u.ok → t.code ++ r = u.code ++ s → t = u ∧ r = s from (H t ht u [] [] hu (by simp [h])).1
  intro t
  induction t with
  | leaf a =>
    intro ht u r s hu h
    cases u with
    | leaf b => simp [Ty.code] at h; exact ⟨by rw [h.1], h.2⟩
    | un b c => simp [Ty.code] at h; have h1 : arB a = 0 := ht; have h2 : arB b = 1 := hu.1; rw [h.1] at h1; omega
    | bin b c d => simp [Ty.code] at h; have h1 : arB a = 0 := ht; have h2 : arB b = 2 := hu.1; rw [h.1] at h1; omega
  | un a t ih =>
    intro ht u r s hu h
    cases u with
    | leaf b => simp [Ty.code] at h; have h1 : arB a = 1 := ht.1; have h2 : arB b = 0 := hu; rw [h.1] at h1; omega
    | un b c =>
      simp [Ty.code] at h
      obtain ⟨e1, e2⟩ := ih ht.2 c r s hu.2 h.2
      exact ⟨by rw [h.1, e1], e2⟩
    | bin b c d => simp [Ty.code] at h; have h1 : arB a = 1 := ht.1; have h2 : arB b = 2 := hu.1; rw [h.1] at h1; omega
  | bin a t1 t2 ih1 ih2 =>
    intro ht u r s hu h
    cases u with
    | leaf b => simp [Ty.code] at h; have h1 : arB a = 2 := ht.1; have h2 : arB b = 0 := hu; rw [h.1] at h1; omega
    | un b c => simp [Ty.code] at h; have h1 : arB a = 2 := ht.1; have h2 : arB b = 1 := hu.1; rw [h.1] at h1; omega
    | bin b c d =>
      simp [Ty.code] at h
      obtain ⟨e1, e2⟩ := ih1 ht.2.1 c _ _ hu.2.1 h.2
      obtain ⟨e3, e4⟩ := ih2 ht.2.2 d _ _ hu.2.2 e2
      exact ⟨by rw [h.1, e1, e3], e4⟩

/-- How many letters the first k of some types have. -/
def clen (K : List Ty) (k : Nat) : Nat := ((K.take k).flatMap Ty.code).length
theorem clen_zero (K : List Ty) : clen K 0 = 0 := rfl
theorem take_succ_some {α : Type} {K : List α} {k : Nat} {T : α} (h : K[k]? = some T) : K.take (k + 1) = K.take k ++ [T] := by rw [List.take_add_one, h]; rfl
theorem clen_succ {K : List Ty} {k : Nat} {T : Ty} (h : K[k]? = some T) : clen K (k + 1) = clen K k + T.code.length := by
  unfold clen; rw [take_succ_some h]; simp
theorem clen_all (K : List Ty) : clen K K.length = (K.flatMap Ty.code).length := by unfold clen; rw [List.take_length]
theorem drop_clen {K : List Ty} {k : Nat} {T : Ty} (h : K[k]? = some T) : (K.flatMap Ty.code).drop (clen K k) = T.code ++ (K.drop (k + 1)).flatMap Ty.code := by
  have hlt := (List.getElem?_eq_some_iff.1 h).1
  have h1 : K[k] = T := (List.getElem?_eq_some_iff.1 h).2
  have e : K.flatMap Ty.code = (K.take k).flatMap Ty.code ++ (T.code ++ (K.drop (k + 1)).flatMap Ty.code) := by
    have h2 : K = K.take k ++ T :: K.drop (k + 1) := by rw [← h1, List.getElem_cons_drop, List.take_append_drop]
    have h3 := congrArg (List.flatMap Ty.code) h2
    rw [List.flatMap_append, List.flatMap_cons] at h3
    exact h3
  rw [e]
  exact List.drop_left

end Go.Proofs.YtmagljnlfponaaaGreat.T

/- TyA -/
namespace Go.Proofs.YtmagljnlfponaaaGreat.T
open Go.RowKit Go.Proofs.YtmagljnlfponaaaGreat.B
set_option linter.unusedSimpArgs false
set_option linter.unusedVariables false

theorem retI {a b : Int} (h : a = b) : Ending.returned (.int .i64 a) = .returned (.int .i64 b) := by rw [h]
theorem retV {v v' : Value} (h : v = v') : Ending.returned v = .returned v' := by rw [h]

theorem arity_any (c : Int) (w : World) : Calls Tryz.prog 108 #[.int .u8 c] w fun e w' => e = .returned (.int .i64 (ar c)) ∧ w = w' := by
  go_enter Tryz.func108, Tryz.ntmps108
  go_wp2
  all_goals
    go_ret
    refine ⟨retI ?_, rfl⟩
    simp_all [ar]

theorem drop_byte (s : ByteArray) (k : Nat) (h : k < s.size) : s.data.toList.drop k = s[k] :: s.data.toList.drop (k + 1) := by
  rw [List.drop_eq_getElem_cons (by simpa using h)]; rfl
theorem drop_end (s : ByteArray) (k : Nat) (h : s.size ≤ k) : s.data.toList.drop k = [] := List.drop_eq_nil_of_le (by simpa using h)

theorem skip_any (s : ByteArray) (p : Nat) (w : World) (hp : p ≤ s.size) (hs : s.size ≤ 4611686018427387904) :
    Calls Tryz.prog 105 #[.string s, .int .i64 p] w fun e w' => e = .returned (.tuple #[.int .i64 (p + (skipN (s.data.toList.drop p) 1).1 : Nat), .bool (skipN (s.data.toList.drop p) 1).2]) ∧ w = w' := by
  obtain ⟨R, hR⟩ : ∃ R, skipN (s.data.toList.drop p) 1 = R := ⟨_, rfl⟩
  rw [hR]
  have HR : Hid (skipN (s.data.toList.drop p) 1 = R) := hR
  clear hR
  go_enter Tryz.func105, Tryz.ntmps105
  go_wp2_with fail
  go_loop [1, 6] (fun a n => ∃ (k L : Nat), p + k ≤ s.size ∧ L ≤ k + 1 ∧ a = .int .i64 (p + k : Nat) ∧ n = .int .i64 L ∧ Hid (R = ((skipN (s.data.toList.drop (p + k)) L).1 + k, (skipN (s.data.toList.drop (p + k)) L).2))) (fun a _ => s.size - (intOf a).toNat)
  case atStart => exact ⟨0, 1, by omega, by omega, rfl, rfl, by rw [← HR.out]; exact rfl⟩
  case round =>
    obtain ⟨k, L, hk, hL, rfl, rfl, hr⟩ := hrel
    by_cases h0 : 0 < L
    · by_cases h1 : p + k < s.size
      · obtain ⟨c, hc⟩ : ∃ c, s[p + k] = c := ⟨_, rfl⟩
        obtain ⟨q, hq⟩ : ∃ q, arB c = q := ⟨_, rfl⟩
        have hq2 : ar c.toNat = q := hq
        have hlo := ar_lo c.toNat
        have ha := arity_any c.toNat w
        rw [hq2] at ha hlo
        have hd := drop_byte s (p + k) h1
        rw [hc] at hd
        rw [hd] at hr
        obtain ⟨L', rfl⟩ : ∃ L', L = L' + 1 := ⟨L - 1, by omega⟩
        by_cases hn : q < 0
        · have hR : R = (k, false) := by rw [hr.out]; simp [skipN, hq, hn]
          have HR3 := Lib.hid hR
          have HC := Lib.hid hc
          clear hr hd hc hq hq2 HR hR
          go_wp2_with (go_at_call 108; rw [HC.out]; refine ha.mono ?_; rintro e w' ⟨rfl, rfl⟩)
          go_ret2
          exact ⟨by rw [HR3.out]; simp, rfl⟩
        · have HR2 : Hid (R = ((skipN (s.data.toList.drop (p + (k + 1))) (L' + q.toNat)).1 + (k + 1), (skipN (s.data.toList.drop (p + (k + 1))) (L' + q.toNat)).2)) := by
            show R = _
            rw [hr.out]; simp only [skipN, hq, if_neg hn]; rw [show p + k + 1 = p + (k + 1) by omega]
            exact Prod.ext (by simp only; omega) rfl
          have HC := Lib.hid hc
          clear hr hd hc hq hq2 HR
          go_wp2_with (go_at_call 108; rw [HC.out]; refine ha.mono ?_; rintro e w' ⟨rfl, rfl⟩)
          go_round
          case rel => exact ⟨k + 1, L' + q.toNat, by omega, by omega, by go_num, by go_num, HR2⟩
          case measure => simp [intOf]; omega
      · have hR : R = (k, false) := by
          rw [hr.out, drop_end s (p + k) (by omega)]
          obtain ⟨L', rfl⟩ : ∃ L', L = L' + 1 := ⟨L - 1, by omega⟩
          simp [skipN]
        have HR3 := Lib.hid hR
        clear hr HR hR
        go_wp2_with fail
        go_ret2
        exact ⟨by rw [HR3.out]; simp, rfl⟩
    · have hR : R = (k, true) := by
        obtain rfl : L = 0 := by omega
        rw [hr.out]; simp [skipN]
      have HR3 := Lib.hid hR
      clear hr HR hR
      go_wp2_with fail
      go_ret2
      exact ⟨by rw [HR3.out]; simp, rfl⟩

/-- Check, whatever the text. -/
theorem check_any (s : ByteArray) (w : World) (hs : s.size ≤ 4611686018427387904) :
    Calls Tryz.prog 94 #[.string s] w fun e w' => e = .returned (.tuple #[.int .i64 (checkL s.data.toList).1, .int .i64 (checkL s.data.toList).2]) ∧ w = w' := by
  have hl : s.data.toList.length = s.size := by simp
  obtain ⟨R, hR⟩ : ∃ R, skipN s.data.toList 1 = R := ⟨_, rfl⟩
  have hk := skip_any s 0 w (by omega) hs
  rw [List.drop_zero, hR] at hk
  have hc : checkL s.data.toList = if 64 < s.size then (21, 64) else if R.2 = false ∨ R.1 < s.size then (20, R.1) else (0, 0) := by unfold checkL; rw [hR, hl]
  rw [hc]
  have hle := skipN_le s.data.toList 1
  rw [hR, hl] at hle
  obtain ⟨n, b⟩ := R
  simp only at hk hle ⊢
  clear hR hc
  by_cases h0 : 64 < s.size
  · go_enter Tryz.func94, Tryz.ntmps94
    go_wp2_with fail
    go_ret2
    simp [h0]
  · cases b
    · go_enter Tryz.func94, Tryz.ntmps94
      go_wp2_with (go_at_call 105; refine hk.mono ?_; rintro e w' ⟨rfl, rfl⟩)
      go_ret2
      simp [h0]
    · by_cases h1 : n < s.size
      · go_enter Tryz.func94, Tryz.ntmps94
        go_wp2_with (go_at_call 105; refine hk.mono ?_; rintro e w' ⟨rfl, rfl⟩)
        go_ret2
        simp [h0, h1]
      · go_enter Tryz.func94, Tryz.ntmps94
        go_wp2_with (go_at_call 105; refine hk.mono ?_; rintro e w' ⟨rfl, rfl⟩)
        go_ret2
        simp [h0, h1]


/-- Is it a type? -/
def isB (s : ByteArray) : Bool := (checkL s.data.toList).1 == 0

theorem is_any (s : ByteArray) (w : World) (hs : s.size ≤ 4611686018427387904) : Calls Tryz.prog 101 #[.string s] w fun e w' => e = .returned (.bool (isB s)) ∧ w = w' := by
  have hc := check_any s w hs
  unfold isB
  generalize checkL s.data.toList = R at *
  obtain ⟨a, b⟩ := R
  simp only at hc ⊢
  go_enter Tryz.func101, Tryz.ntmps101
  go_wp2_with (go_at_call 94; refine hc.mono ?_; rintro e w' ⟨rfl, rfl⟩)
  go_ret
  exact ⟨retV (congrArg Value.bool (by rw [Bool.eq_iff_iff]; simp)), rfl⟩
end Go.Proofs.YtmagljnlfponaaaGreat.T

/- TyB -/
namespace Go.Proofs.YtmagljnlfponaaaGreat.T
open Go.RowKit Go.Proofs.YtmagljnlfponaaaGreat.B
set_option linter.unusedSimpArgs false
set_option linter.unusedVariables false

/-- A list of bytes as a string. -/
def bs (l : List UInt8) : ByteArray := ⟨l.toArray⟩
@[simp] theorem bs_list (l : List UInt8) : (bs l).data.toList = l := by simp [bs]
@[simp] theorem bs_size (l : List UInt8) : (bs l).size = l.length := by simp [bs, ByteArray.size]
def str (t : Ty) : ByteArray := bs t.code
def strV (t : Ty) : Value := .string (str t)

theorem extract_bs (s : ByteArray) (a b : Nat) : s.extract a b = bs ((s.data.toList.drop a).take (b - a)) := by
  have h := Lib.extract_data s a b
  apply ByteArray.ext
  apply Array.toList_inj.1
  rw [h, bs_list]

theorem info9 : (Tryz.prog.info? 9).map (fun i => (i.zero, i.size, i.bytes)) = some (some (.string ⟨#[]⟩), 1, 16) := by kernel_rfl

set_option maxRecDepth 100000 in
theorem parts_any (t : Ty) (w : World) (ht : t.ok) (h64 : t.code.length ≤ 4611686018427387904) :
    Calls Tryz.prog 102 #[.string (str t)] w fun e w' => ∃ v, e = .returned v ∧ w'.ownsRow w.heap.size 9 1 v t.kids.length (t.kids.map strV) ∧ Below w.heap.size w w' := by
  obtain ⟨i0, hi0, hz0, hz1, hz2⟩ := info_parts info9
  obtain ⟨K, hK⟩ : ∃ K, t.kids = K := ⟨_, rfl⟩
  obtain ⟨s, hs⟩ : ∃ s, str t = s := ⟨_, rfl⟩
  have hsz : s.size = 1 + (K.flatMap Ty.code).length := by rw [← hs, ← hK]; simp only [str, bs_size, Ty.code_eq t, List.length_cons]; omega
  have hsl : s.data.toList.drop 1 = K.flatMap Ty.code := by rw [← hs, ← hK]; simp only [str, bs_list, Ty.code_eq t, List.drop_succ_cons, List.drop_zero]
  have hok : ∀ k ∈ K, k.ok := by rw [← hK]; exact fun k hk => Ty.kids_ok ht hk
  have hk2 : K.length ≤ 2 := by rw [← hK]; cases t <;> simp [Ty.kids]
  rw [hK, hs]
  have h64' : s.size ≤ 4611686018427387904 := by rw [← hs]; simpa only [str, bs_size] using h64
  clear hK hs ht h64
  have HZ := Lib.hid hsz
  have HL := Lib.hid hsl
  have HO := Lib.hid hok
  clear hsz hsl hok
  go_enter Tryz.func102, Tryz.ntmps102
  go_wp2_with fail
  go_loopw [3, 4] (fun l a wr => ∃ k : Nat, k ≤ K.length ∧ a = .int .i64 (1 + clen K k : Nat) ∧ wr.ownsRow w.heap.size 9 1 l k ((K.take k).map strV) ∧ Below w.heap.size w wr) (fun _ a _ => s.size - (intOf a).toNat)
  case atStart => exact ⟨0, by omega, rfl, World.ownsRow_nil _ _ _ _, Below.refl _ _⟩
  case round =>
    obtain ⟨k, hk, rfl, hown, hbel⟩ := hrel
    obtain ⟨at0, hat⟩ : ∃ n, 1 + clen K k = n := ⟨_, rfl⟩
    by_cases hlt : k < K.length
    · obtain ⟨T, hT⟩ : ∃ T, K[k]? = some T := ⟨_, List.getElem?_eq_getElem hlt⟩
      have hTp := T.code_pos
      have hdrop : s.data.toList.drop at0 = T.code ++ (K.drop (k + 1)).flatMap Ty.code := by
        rw [← hat, ← List.drop_drop, HL.out, drop_clen hT]
      have hend : at0 + T.code.length ≤ s.size := by
        have := congrArg List.length hdrop
        simp at this
        omega
      have hskip := skip_any s at0 wr (by omega) h64'
      rw [hdrop, skipN_code T (HO.out T (List.mem_of_getElem? hT))] at hskip
      have hsk0 : ∀ r, skipN r 0 = (0, true) := fun r => by cases r <;> rfl
      rw [hsk0, Nat.zero_add] at hskip
      have hex : s.extract at0 (at0 + T.code.length) = str T := by rw [extract_bs, hdrop]; simp [str]
      have hnext := clen_succ hT
      have htake := take_succ_some hT
      obtain ⟨tl, htl⟩ : ∃ tl, T.code.length = tl := ⟨_, rfl⟩
      rw [htl] at hskip hex hnext hTp hend
      have HEX := Lib.hid hex
      have HN : Hid (1 + clen K (k + 1) = at0 + tl) := by show _ = _; omega
      have HT := Lib.hid htake
      rw [hat]
      have HA := Lib.hid hat
      clear hex hnext htake hsk0 hdrop htl hat hT
      go_wp2_with (first
        | (go_at_call 105; refine hskip.mono ?_; rintro e w' ⟨rfl, rfl⟩)
        | (at_builtin; refine wpList_append_sl _ rfl (.tmp 17) (.tmp 22) 37 rfl w.heap.size 9 i0 _ 1 16 Tryz.underlying37 hi0 hz0 hz1 hz2 rfl (by omega) _ k _ rfl (hown.alloc _) (wr.heap.size + 1) _ 1 1 [.string (s.extract at0 (at0 + tl))] rfl (Sl.one _ _ _) ?_ ?_ ?_ ?_ ?_))
      · intro u hu; simp at hu; subst hu; rfl
      · unfold maxLen; omega
      · omega
      · have := hbel.size; simp; omega
      intro v1 w1 hown1 hg1 hat1
      rw [HEX.out] at hown1
      have hb1 : Below w.heap.size w w1 := (hbel.alloc hbel.size _).grown hg1 (by have := hbel.size; simp; omega) (fun g hg => (hown.lt g hg).1)
      clear hown hbel hskip
      go_wp2
      go_roundw
      case rel => exact ⟨k + 1, by omega, by rw [HN.out]; go_num, by rw [HT.out]; simpa [strV] using hown1, hb1⟩
      case measure => simp [intOf]; omega
    · obtain rfl : k = K.length := by omega
      have hend : s.size ≤ at0 := by rw [HZ.out, ← hat, clen_all]; omega
      rw [hat]
      have HA := Lib.hid hat
      clear hat
      go_wp2
      go_ret
      exact ⟨_, rfl, by simpa using hown, hbel⟩

end Go.Proofs.YtmagljnlfponaaaGreat.T

/- TyC -/
namespace Go.Proofs.YtmagljnlfponaaaGreat.T
open Go.RowKit Go.Proofs.YtmagljnlfponaaaGreat.B
set_option linter.unusedSimpArgs false
set_option linter.unusedVariables false

theorem isB_str {t : Ty} (h : t.ok) (h64 : t.code.length ≤ 64) : isB (str t) = true := by
  unfold isB; rw [str, bs_list, check_code h h64]; rfl
theorem isB_iff {s : ByteArray} : isB s = true ↔ ∃ t : Ty, t.ok ∧ s = str t ∧ t.code.length ≤ 64 := by
  unfold isB
  rw [beq_iff_eq, check_ok]
  constructor
  · rintro ⟨t, h1, h2, h3⟩
    refine ⟨t, h1, ?_, by rw [h2]; exact h3⟩
    apply ByteArray.ext; apply Array.toList_inj.1; rw [str, bs_list, h2]
  · rintro ⟨t, h1, rfl, h3⟩
    exact ⟨t, h1, by rw [str, bs_list], by rw [str, bs_list]; exact h3⟩

def PartsR (t : Ty) (w : World) (e : Ending) (w' : World) : Prop := ∃ v, e = .returned v ∧ w'.ownsRow w.heap.size 9 1 v t.kids.length (t.kids.map strV) ∧ Below w.heap.size w w'

theorem Parts_yes (t : Ty) (w : World) (ht : t.ok) (h64 : t.code.length ≤ 64) :
    Calls Tryz.prog 91 #[.string (str t)] w fun e w' => PartsR t w e w' := by
  have hi := is_any (str t) w (by simp [str]; omega)
  rw [isB_str ht h64] at hi
  have hp := parts_any t w ht (by omega)
  generalize str t = s at *
  go_enter Tryz.func91, Tryz.ntmps91
  go_wp2_with (first
    | (go_at_call 101; refine hi.mono ?_; rintro e w' ⟨rfl, rfl⟩)
    | (go_at_call 102; refine hp.mono ?_; rintro e w1 ⟨v, rfl, ho, hb⟩))
  go_ret
  exact ⟨v, rfl, ho, hb⟩

theorem Parts_no (s : ByteArray) (w : World) (hs : s.size ≤ 4611686018427387904) (h : isB s = false) :
    Calls Tryz.prog 91 #[.string s] w fun e w' => e = .returned (.slice none 0 0) ∧ w = w' := by
  have hi := is_any s w hs
  rw [h] at hi
  go_enter Tryz.func91, Tryz.ntmps91
  go_wp2_with (go_at_call 101; refine hi.mono ?_; rintro e w' ⟨rfl, rfl⟩)
  go_ret
  exact ⟨rfl, rfl⟩

theorem str_head (t : Ty) : ∃ h : 0 < (str t).size, (str t)[0]'h = t.head := by
  have h1 : (str t).data.toList = t.head :: t.kids.flatMap Ty.code := by rw [str, bs_list, Ty.code_eq]
  have hp : 0 < (str t).size := by rw [str, bs_size]; exact t.code_pos
  refine ⟨hp, ?_⟩
  have := drop_byte (str t) 0 hp
  rw [List.drop_zero, h1] at this
  exact ((List.cons.inj this).1).symm

end Go.Proofs.YtmagljnlfponaaaGreat.T

/- RelT -/
namespace Go.Proofs.YtmagljnlfponaaaGreat.T

/-- Part by part, by what is asked of two that stand at one place. -/
def allT (ask : Ty → Ty → Int) : Ty → Ty → Bool
  | .leaf h, T => if 0 ≤ ask (.leaf h) T then ask (.leaf h) T == 1 else true
  | .un h a, T => if 0 ≤ ask (.un h a) T then ask (.un h a) T == 1 else match T with | .un _ b => allT ask a b | _ => true
  | .bin h a b, T => if 0 ≤ ask (.bin h a b) T then ask (.bin h a b) T == 1 else match T with | .bin _ c d => allT ask a c && allT ask b d | _ => true

def askC (S T : Ty) : Int := if S.head = 63 ∨ T.head = 63 then 1 else if S.head = T.head then -1 else 0
def askP (S T : Ty) : Int := if T.head = 63 then 1 else if S.head = T.head then -1 else 0

/-- What is asked tells types of one head alone apart. -/
structure Asks (ask : Ty → Ty → Int) : Prop where
  neg : ∀ S T, ask S T < 0 → S.head = T.head
  lo : ∀ S T, -1 ≤ ask S T
  hi : ∀ S T, ask S T ≤ 1
theorem askC_asks : Asks askC := by
  refine ⟨fun S T h => ?_, fun S T => ?_, fun S T => ?_⟩
  · unfold askC at h
    split at h
    · omega
    · split at h
      · assumption
      · omega
  · unfold askC
    repeat' split
    all_goals omega
  · unfold askC
    repeat' split
    all_goals omega
theorem askP_asks : Asks askP := by
  refine ⟨fun S T h => ?_, fun S T => ?_, fun S T => ?_⟩
  · unfold askP at h
    split at h
    · omega
    · split at h
      · assumption
      · omega
  · unfold askP
    repeat' split
    all_goals omega
  · unfold askP
    repeat' split
    all_goals omega

theorem kids_len {S T : Ty} (hS : S.ok) (hT : T.ok) (h : S.head = T.head) : S.kids.length = T.kids.length := by
  have h1 := Ty.ar_head hS
  have h2 := Ty.ar_head hT
  rw [h] at h1
  omega

theorem allT_kids {ask : Ty → Ty → Int} {S T : Ty} (hS : S.ok) (hT : T.ok) (hA : Asks ask) :
    allT ask S T = if 0 ≤ ask S T then ask S T == 1 else (S.kids.zip T.kids).all fun p => allT ask p.1 p.2 := by
  by_cases h : 0 ≤ ask S T
  · rw [if_pos h]
    cases S <;> simp only [allT, if_pos h]
  · rw [if_neg h]
    have hh := hA.neg S T (by omega)
    have hl := kids_len hS hT hh
    cases S with
    | leaf a => simp [allT, if_neg h, Ty.kids]
    | un a s =>
      cases T with
      | leaf b => simp [Ty.kids] at hl
      | un b t => simp [allT, if_neg h, Ty.kids]
      | bin b t u => simp [Ty.kids] at hl
    | bin a s s' =>
      cases T with
      | leaf b => simp [Ty.kids] at hl
      | un b t => simp [Ty.kids] at hl
      | bin b t u => simp [allT, if_neg h, Ty.kids]

theorem head63 {t : Ty} (h : t.ok) (e : t.head = 63) : t = .leaf 63 := by
  cases t with
  | leaf a => simp [Ty.head] at e; rw [e]
  | un a b => simp [Ty.head] at e; have := h.1; rw [e] at this; exact absurd this (by decide)
  | bin a b c => simp [Ty.head] at e; have := h.1; rw [e] at this; exact absurd this (by decide)

theorem all_take_lt {α : Type} {l : List α} {p : α → Bool} {k : Nat} {x : α} (hk : l[k]? = some x) (hp : p x = false) : l.all p = false := by
  rw [List.all_eq_false]
  exact ⟨x, List.mem_of_getElem? hk, by simp [hp]⟩

theorem zip_all {K1 K2 : List Ty} (hl : K1.length = K2.length) (f : Ty → Ty → Bool) (h : ∀ m S T, m < K1.length → K1[m]? = some S → K2[m]? = some T → f S T = true) : ((K1.zip K2).all fun p => f p.1 p.2) = true := by
  rw [List.all_eq_true]
  intro p hp
  obtain ⟨m, hm⟩ := List.getElem?_of_mem hp
  rw [List.getElem?_zip_eq_some] at hm
  exact h m p.1 p.2 (List.getElem?_eq_some_iff.1 hm.1).1 hm.1 hm.2
theorem zip_not {K1 K2 : List Ty} (f : Ty → Ty → Bool) {m : Nat} {S T : Ty} (h1 : K1[m]? = some S) (h2 : K2[m]? = some T) (h : f S T = false) : ((K1.zip K2).all fun p => f p.1 p.2) = false := by
  rw [List.all_eq_false]
  exact ⟨(S, T), List.mem_of_getElem? (List.getElem?_zip_eq_some.2 ⟨h1, h2⟩), by simp [h]⟩

end Go.Proofs.YtmagljnlfponaaaGreat.T
