/- Parts of this claim: Bag, BagAZ, BagQ, BagI, Blk. -/
import Derived.Deep.OwnRows
import Derived.Laws.IdiomCopy
import Derived.Deep.MidRow
import Derived.Lib.Hide
import Derived.Deep.QuietTactic
import Derived.BigQuiet
import Derived.Deep.LoopGhost
import Derived.Deep.RegionWith
import Derived.Below
import Derived.Laws.OwnMore
import Derived.Deep.Draws
import Derived.Laws.Rows
import Derived.Test.YtobplngonkdbpaaGreatDoorP00
import Derived.Test.YtobplngonkdbpaaGreatDoorProg
set_option linter.unusedVariables false
set_option linter.unusedSimpArgs false
/- Bag -/
namespace Go.Proofs.YtobplngonkdbpaaGreatDoor.B
open Go.RowKit
set_option linter.unusedVariables false
/-- Blocks outside C are as they were. -/
structure But (C : Nat -> Prop) (w w' : World) : Prop where
 os : w'.os = w.os
 tape : w'.tape = w.tape
 output : w'.output = w.output
 size : w.heap.size <= w'.heap.size
 block : ∀ k, k < w.heap.size -> ¬ C k -> w'.heap[k]? = w.heap[k]?
section
variable {C D : Nat -> Prop} {a b c w w' : World}
theorem But.refl (C : Nat -> Prop) (w : World) : But C w w := ⟨rfl, rfl, rfl, Nat.le_refl _, fun _ _ _ => rfl⟩
theorem But.trans (h : But C a b) (k : But D b c) (hD : ∀ k, k < a.heap.size -> D k -> C k) : But C a c :=
 ⟨k.os.trans h.os, k.tape.trans h.tape, k.output.trans h.output, Nat.le_trans h.size k.size, fun i hi hc =>
  (k.block i (Nat.lt_of_lt_of_le hi h.size) fun hd => hc (hD i hi hd)).trans (h.block i hi hc)⟩
theorem But.of_below (h : Below w.heap.size w w') : But C w w' := ⟨h.os, h.tape, h.output, h.size, fun k hk _ => h.block k hk⟩
theorem But.below {B : Nat} (h : But C w w') (hB : B <= w.heap.size) (hC : ∀ k, C k -> B <= k) : Below B w w' :=
 ⟨h.os, h.tape, h.output, h.size, fun k hk => h.block k (by omega) fun hc => by have := hC k hc; omega⟩
theorem But.drewN (h : But C a w) (n : Nat) : But C a (w.drewN n) := h.trans (But.of_below (C := C) (below_drewN (Below.refl _ _) n)) fun _ _ h => h
theorem But.alloc (h : But C a w) (o : Obj) : But C a (w.alloc o) := h.trans (But.of_below (C := C) (Below.alloc (Below.refl _ _) (Nat.le_refl _) o)) fun _ _ h => h
theorem But.grown {row : Option Nat} (h : But C a w) (hg : w.grownBy w' row) (hr : ∀ k, row = some k -> k < a.heap.size -> C k) : But C a w' :=
 ⟨hg.os.trans h.os, hg.tape.trans h.tape, hg.output.trans h.output, Nat.le_trans h.size hg.size, fun k hk hc =>
  (hg.block k (Nat.lt_of_lt_of_le hk h.size) fun e => hc (hr k e.symm hk)).trans (h.block k hk hc)⟩
end
/-- A slice that may be read: n elements of sz cells; the cells are xs. -/
def Rd (w : World) (sz : Nat) (u : Value) (n : Nat) (xs : List Value) : Prop :=
 ∃ A c, u = .slice A n c /\ n <= c /\ c <= maxLen /\ xs.length = n * sz /\ (∀ b, u.ownBlock = some b -> b < w.heap.size) /\
  (n = 0 \/ ∃ b, A = some ⟨b, 0, none⟩ /\ ∀ j x, xs[j]? = some x -> w.cell? ⟨b, j, none⟩ = some x)
section
variable {w w' : World} {sz n base N : Nat} {e : TypeId} {u l : Value} {xs ys : List Value}
theorem Rd.of_own (h : w.ownsRow base e sz u n xs) : Rd w sz u n xs := by
 have hlt := h.lt
 rcases h.2 with ⟨rfl, rfl⟩ | ⟨g, cap, cur, rfl, hbg, hg, hnc, hcm, hcs, htake⟩
 · exact ⟨none, 0, rfl, Nat.le_refl _, by unfold maxLen; omega, h.1, (fun b hb => by cases hb), .inl rfl⟩
 ·
  refine ⟨_, _, rfl, hnc, hcm, h.1, fun b hb => (hlt b hb).2, .inr ⟨g, rfl, fun j x hx => ?_⟩⟩
  have := h.cells (g := g) rfl j x hx
  rwa [add_flat, Nat.zero_add] at this
theorem Rd.lt (h : Rd w sz u n xs) : ∀ b, u.ownBlock = some b -> b < w.heap.size := by
 obtain ⟨A, c, rfl, _, _, _, h1, _⟩ := h; exact h1
theorem Rd.step (h : Rd w sz u n xs) (hs : w.heap.size <= w'.heap.size) (hb : ∀ b, u.ownBlock = some b -> w'.heap[b]? = w.heap[b]?) : Rd w' sz u n xs := by
 obtain ⟨A, c, rfl, h1, h2, h3, h4, h5⟩ := h
 refine ⟨A, c, rfl, h1, h2, h3, fun b hb => Nat.lt_of_lt_of_le (h4 b hb) hs, ?_⟩
 rcases h5 with h5 | ⟨b, rfl, h5⟩
 · exact .inl h5
 · exact .inr ⟨b, rfl, fun j x hx => (World.cell?_of_block (w := w) (hb b rfl)).trans (h5 j x hx)⟩
/-- What lies at the head of a row that is owned. -/
theorem Rd.pre (h : Rd w sz u n xs) (hs : w.heap.size <= w'.heap.size) (ho : w'.ownsRow base e sz l N ys) (hb : ∀ b, u.ownBlock = some b -> l.ownBlock = some b) (hp : xs <+: ys) : Rd w' sz u n xs := by
 obtain ⟨A, c, rfl, h1, h2, h3, h4, h5⟩ := h
 refine ⟨A, c, rfl, h1, h2, h3, fun b hb => Nat.lt_of_lt_of_le (h4 b hb) hs, ?_⟩
 rcases h5 with h5 | ⟨b, rfl, h5⟩
 · exact .inl h5
 ·
  refine .inr ⟨b, rfl, fun j x hx => ?_⟩
  obtain ⟨zs, rfl⟩ := hp
  have hx' : (xs ++ zs)[j]? = some x := by
   rw [List.getElem?_append_left (List.getElem?_eq_some_iff.1 hx).1]; exact hx
  have := ho.cells (hb b rfl) j x hx'
  rwa [add_flat, Nat.zero_add] at this
theorem Rd.form (h : Rd w sz u n xs) : ∃ A c, u = .slice A n c /\ n <= c /\ c <= maxLen := by
 obtain ⟨A, c, h1, h2, h3, _⟩ := h; exact ⟨A, c, h1, h2, h3⟩
theorem Rd.cell {A : Option Addr} {c j : Nat} (h : Rd w sz (.slice A n c) n xs) (hj : j < n * sz) : ∃ b, A = some ⟨b, 0, none⟩ /\ b < w.heap.size /\ ∃ x, xs[j]? = some x /\ w.cell? ⟨b, j, none⟩ = some x := by
 obtain ⟨A', c', hv, h1, h2, h3, h4, h5⟩ := h
 injection hv with e1 e2 e3
 subst e1 e3
 rcases h5 with h5 | ⟨b, rfl, h5⟩
 · subst h5; simp at hj
 · exact ⟨b, rfl, h4 b rfl, xs[j]'(by omega), List.getElem?_eq_getElem (by omega), h5 j _ (List.getElem?_eq_getElem (by omega))⟩
theorem Rd.sl (h : Rd w sz u n xs) : ∃ A c, u = .slice A n c /\ n <= c /\ c <= maxLen /\ Sl w w.heap.size sz A n xs := by
 obtain ⟨A, c, rfl, h1, h2, h3, h4, h5⟩ := h
 refine ⟨A, c, rfl, h1, h2, h3, ?_⟩
 rcases h5 with h5 | ⟨b, rfl, h5⟩
 · exact .inl h5
 · exact .inr ⟨b, 0, rfl, h4 b rfl, fun j x hx => by rw [Nat.zero_add]; exact h5 j x hx⟩
end
/-- Marks of k elements. -/
def mks (M : Nat -> List Value) (k : Nat) : List Value := (List.range k).flatMap M
theorem mks_succ (M : Nat -> List Value) (k : Nat) : mks M (k + 1) = mks M k ++ M k := by simp [mks, List.range_succ]
theorem mks_len {M : Nat -> List Value} {sz : Nat} (h : ∀ i, (M i).length = sz) (k : Nat) : (mks M k).length = k * sz := by
 induction k with
 | zero => simp [mks]
 | succ k ih => rw [mks_succ, List.length_append, ih, h, Nat.add_mul]; omega
theorem mks_pre (M : Nat -> List Value) {k m : Nat} (h : k <= m) : mks M k <+: mks M m := by
 induction m with
 | zero => obtain rfl : k = 0 := by omega
           exact List.prefix_refl _
 | succ m ih =>
  by_cases e : k = m + 1
  · subst e; exact List.prefix_refl _
  · rw [mks_succ]; exact (ih (by omega)).trans (List.prefix_append _ _)
theorem mks_at {M : Nat -> List Value} {sz : Nat} (h : ∀ i, (M i).length = sz) {i k j : Nat} (hi : i < k) (hj : j < sz) : (mks M k)[i * sz + j]? = (M i)[j]? := by
 obtain ⟨zs, hz⟩ := mks_pre M (show i + 1 <= k by omega)
 rw [<- hz, mks_succ, List.append_assoc, List.getElem?_append_right (by rw [mks_len h]; omega), mks_len h, List.getElem?_append_left (by rw [h]; omega)]
 congr 1; omega
theorem mks_at1 {M : Nat -> List Value} {v : Value} (h : ∀ i, (M i).length = 1) {i k : Nat} (hi : i < k) (hv : M i = [v]) : (mks M k)[i]? = some v := by
 have := mks_at h hi (Nat.zero_lt_one)
 simpa [hv] using this
/-- append onto a row of one's own, told finely: in its place, or in the block that was just made, nothing else touched. -/
def Tch (w w' : World) (r r' : Option Nat) : Prop := (r' = r /\ w.grownBy w' r) \/ (r' = some w.heap.size /\ w.grownBy w' none)
theorem Tch.size {w w' : World} {r r' : Option Nat} (h : Tch w w' r r') : w.heap.size <= w'.heap.size := by
 rcases h with ⟨_, h⟩ | ⟨_, h⟩ <;> exact h.size
theorem Tch.block {w w' : World} {r r' : Option Nat} (h : Tch w w' r r') {b : Nat} (hb : b < w.heap.size) (hr : r ≠ some b) : w'.heap[b]? = w.heap[b]? := by
 rcases h with ⟨_, h⟩ | ⟨_, h⟩
 · exact h.block b hb fun e => hr e.symm
 · exact h.block b hb (by simp)
theorem Tch.but {C : Nat -> Prop} {a w w' : World} {r r' : Option Nat} (h : Tch w w' r r') (hb : But C a w) (hr : ∀ k, r = some k -> k < a.heap.size -> C k) : But C a w' := by
 rcases h with ⟨_, h⟩ | ⟨_, h⟩
 · exact hb.grown h hr
 · exact hb.grown h fun k e => by cases e
theorem Tch.grown {w w' : World} {r r' : Option Nat} (h : Tch w w' r r') : w.grownBy w' r := by
 rcases h with ⟨_, h⟩ | ⟨_, h⟩
 · exact h
 · exact ⟨h.os, h.tape, h.output, h.size, fun k hk _ => h.block k hk (by simp)⟩
theorem Tch.own {w w' : World} {r r' : Option Nat} {base : Nat} {e : TypeId} {sz : Nat} {v : Value} {n : Nat} {xs : List Value} (h : Tch w w' r r') (ho : w.ownsRow base e sz v n xs) (hv : ∀ b, v.ownBlock = some b -> r ≠ some b) : w'.ownsRow base e sz v n xs := by
 refine ho.kept h.grown ?_
 cases hb : v.ownBlock with
 | none => exact .inl rfl
 | some b => exact .inr fun e => hv b hb e.symm
theorem Tch.rd {w w' : World} {r r' : Option Nat} {sz : Nat} {v : Value} {n : Nat} {xs : List Value} (h : Tch w w' r r') (ho : Rd w sz v n xs) (hv : ∀ b, v.ownBlock = some b -> r ≠ some b) : Rd w' sz v n xs :=
 ho.step h.size fun b hb => h.block (ho.lt b hb) (hv b hb)
section
variable {P : Program} (w : World)
theorem run_append_fine (base : Nat) (t ty e : TypeId) (i : TypeInfo) (z : Value) (size bytes : Nat) (ht : P.underlying t = some (.slice e)) (hi : P.info? e = some i) (hz : i.zero = some z)
  (hsize : i.size = size) (hby : i.bytes = bytes) (hzs : z.cells.size = size)
  (v : Value) (n : Nat) (xs : List Value) (hown : w.ownsRow base e size v n xs)
  (B : Nat) (A : Option Addr) (m c : Nat) (news : List Value) (hr : Sl w B size A m news) (h1 : ∀ u ∈ news, u.oneCell' = true) (hm : 0 < m)
  (h63 : n + m <= maxLen) (hbytes : (n + m) * bytes <= 140737488355328) (hbase : base <= w.heap.size) :
  ∃ v' w', (Builtin.append_ #[t, t] ty #[v, .slice A m c]).run P w = .ok v' w' /\ w'.ownsRow base e size v' (n + m) (xs ++ news) /\ Tch w w' v.ownBlock v'.ownBlock := by
 obtain ⟨ba, oa, rfl, _, hc0⟩ := hr.at_ hm
 have hnews : ∀ j u, news[j]? = some u -> w.cell? ((⟨ba, oa, none⟩ : Addr).add j) = some u := fun j u hu => by rw [add_flat]; exact hc0 j u hu
 have hl := hr.1
 subst hsize
 subst hby
 have hsmall : n + m <= 9223372036854775807 := by simp only [maxLen] at h63; omega
 have hlen : (xs ++ news).length = (n + m) * i.size := by rw [List.length_append, hown.1, hl, Nat.add_mul]
 have grown : ∀ (old : Nat) (ys : List Value), ys.length = n * i.size -> ys ++ news = xs ++ news ->
   (w.drew.alloc (.cells (ys.toArray ++ news.toArray ++ Builtin.zeroCells z.cells (grownCap w (n + m) old e - (n + m))) e)).ownsRow base e i.size
    (.slice (some ⟨w.heap.size, 0, none⟩) (n + m) (grownCap w (n + m) old e)) (n + m) (xs ++ news) /\
   w.grownBy (w.drew.alloc (.cells (ys.toArray ++ news.toArray ++ Builtin.zeroCells z.cells (grownCap w (n + m) old e - (n + m))) e)) none := by
  intro old ys hy hyx
  have hge := grownCap_ge w (n + m) old e
  refine ⟨⟨hlen, .inr ⟨w.heap.size, _, _, rfl, hbase, heap_alloc_new w.drew _, hge, grownCap_le_maxLen w (n + m) old e h63, ?_, ?_⟩⟩, ⟨rfl, rfl, rfl, by simp, fun k hk _ => Below.heap_alloc w.drew _ k hk⟩⟩
  ·
   simp only [Array.size_append, List.size_toArray, size_zeroCells, hzs, hy, hl, <- Nat.add_mul]
   congr 1
   omega
  ·
   simp only [Array.toList_append, List.append_assoc]
   rw [<- List.append_assoc, hyx, <- hlen]
   exact List.take_left
 rcases hown.2 with ⟨rfl, rfl⟩ | ⟨g, cap, cur, rfl, hbg, hg, hnc, hcm, hcs, htake⟩
 ·
  have hx : xs = [] := List.eq_nil_of_length_eq_zero (by simpa using hown.1)
  subst hx
  have hrun := run_append_nil (P := P) w t ty e i z ht hi hz ⟨ba, oa, none⟩ m c news hl hnews hm (by omega) (by have hb := hbytes; simp only [Nat.zero_add] at hb; omega)
  have hgr := grown 0 [] (by simp) rfl
  simp only [Nat.zero_add, List.nil_append, Array.empty_append] at hgr ⊢
  exact ⟨_, _, hrun, hgr.1, .inr ⟨rfl, hgr.2⟩⟩
 ·
  by_cases hroom : n + m <= cap
  ·
   have hfit : n * i.size + news.length <= cur.size := by rw [hl, hcs, <- Nat.add_mul]; exact Nat.mul_le_mul_right _ hroom
   have hrun := run_append_room (P := P) w t ty e i ht hi g n cap cur hg ⟨ba, oa, none⟩ m c news hl hnews h1 hroom hfit
   refine ⟨_, _, hrun, ⟨hlen, .inr ⟨g, cap, _, rfl, hbg, setRow_heap w g cur _ e _ hg, hroom, hcm, ?_, ?_⟩⟩, .inl ⟨rfl, rfl, rfl, rfl, by simp, fun k _ hk => setRow_other w g k _ (fun e => hk (by simp [Value.ownBlock, e]))⟩⟩
   ·
    simp only [List.size_toArray, List.length_append, List.length_take, List.length_drop, Array.length_toList]
    omega
   ·
    rw [htake, <- hlen]
    exact List.take_left
  ·
   have holds : ∀ j u, xs[j]? = some u -> w.cell? ((⟨g, 0, none⟩ : Addr).add j) = some u := hown.cells (g := g) rfl
   have hrun := run_append_grow (P := P) w t ty e i z ht hi hz ⟨g, 0, none⟩ n cap xs hown.1 holds ⟨ba, oa, none⟩ m c news hl hnews (by omega) (by omega) (growslice_fits (by omega) hbytes)
   have hgr := grown cap xs hown.1 rfl
   exact ⟨_, _, hrun, hgr.1, .inr ⟨rfl, hgr.2⟩⟩
theorem wp_append_fine {o : Oper} {a : Act} {K : Act -> World -> Prop} {Q : Exit -> Act -> World -> Prop} (s x : Operand) (t : TypeId)
  (ho : o.op = .call { callee := .builtin .append, args := #[s, x], argTypes := #[t, t] })
  (base : Nat) (e : TypeId) (i : TypeInfo) (z : Value) (size bytes : Nat) (ht : P.underlying t = some (.slice e)) (hi : P.info? e = some i) (hz : i.zero = some z)
  (hsize : i.size = size) (hby : i.bytes = bytes) (hzs : z.cells.size = size)
  (v : Value) (n : Nat) (xs : List Value) (hs : a.eval s = v) (hown : w.ownsRow base e size v n xs)
  (B : Nat) (A : Option Addr) (m c : Nat) (news : List Value) (hx : a.eval x = .slice A m c) (hr : Sl w B size A m news) (h1 : ∀ u ∈ news, u.oneCell' = true) (hm : 0 < m)
  (h63 : n + m <= maxLen) (hbytes : (n + m) * bytes <= 140737488355328) (hbase : base <= w.heap.size)
  (h : ∀ v' w', w'.ownsRow base e size v' (n + m) (xs ++ news) -> Tch w w' v.ownBlock v'.ownBlock -> K (a.put o.dst v') w') : o.wp P a w K Q := by
 obtain ⟨v', w', hrun, h2, h3⟩ := run_append_fine (P := P) w base t o.type e i z size bytes ht hi hz hsize hby hzs v n xs hown B A m c news hr h1 hm h63 hbytes hbase
 unfold Oper.wp execOp
 simp only [ho, resolve, invoke, builtin, Sem.run_bind, Sem.run_pure, Result.andThen_ok, List.map_toArray, List.map_cons, List.map_nil, hs, hx, hrun]
 exact h v' w' h2 h3
theorem wpList_append_fine {ops : Array Oper} {rest : List Oper} {o : Oper} {a : Act} {Q : Exit -> Act -> World -> Prop} (hgd : o.guard = none) (s x : Operand) (t : TypeId)
  (ho : o.op = .call { callee := .builtin .append, args := #[s, x], argTypes := #[t, t] })
  (base : Nat) (e : TypeId) (i : TypeInfo) (z : Value) (size bytes : Nat) (ht : P.underlying t = some (.slice e)) (hi : P.info? e = some i) (hz : i.zero = some z)
  (hsize : i.size = size) (hby : i.bytes = bytes) (hzs : z.cells.size = size)
  (v : Value) (n : Nat) (xs : List Value) (hs : a.eval s = v) (hown : w.ownsRow base e size v n xs)
  (B : Nat) (A : Option Addr) (m c : Nat) (news : List Value) (hx : a.eval x = .slice A m c) (hr : Sl w B size A m news) (h1 : ∀ u ∈ news, u.oneCell' = true) (hm : 0 < m)
  (h63 : n + m <= maxLen) (hbytes : (n + m) * bytes <= 140737488355328) (hbase : base <= w.heap.size)
  (h : ∀ v' w', w'.ownsRow base e size v' (n + m) (xs ++ news) -> Tch w w' v.ownBlock v'.ownBlock -> wpList P ops Q rest (a.put o.dst v') w') : wpList P ops Q (o :: rest) a w :=
 wpList_plain hgd fun _ hK => wp_append_fine w s x t ho base e i z size bytes ht hi hz hsize hby hzs v n xs hs hown B A m c news hx hr h1 hm h63 hbytes hbase fun v' w' h2 h3 => hK _ _ (h v' w' h2 h3)
end
/-- Two slices do not share a block. -/
def Ap (u v : Value) : Prop := ∀ b, u.ownBlock = some b -> v.ownBlock ≠ some b
theorem Ap.symm {u v : Value} (h : Ap u v) : Ap v u := fun b h1 h2 => h b h2 h1
theorem Ap.nil (u : Value) : Ap (.slice none 0 0) u := fun b h => by cases h
theorem Ap.touch {w w' : World} {u v v' : Value} (h : Ap u v) (hu : ∀ b, u.ownBlock = some b -> b < w.heap.size) (ht : Tch w w' v.ownBlock v'.ownBlock) : Ap u v' := by
 intro b hb
 rcases ht with ⟨e, _⟩ | ⟨e, _⟩
 · rw [e]; exact h b hb
 · rw [e]; intro h2; injection h2 with h2; have := hu b hb; omega
/-- The look's second part: one, more grow; rows m < q may have been gone on with. -/
structure B2 (base T1 e sz K : Nat) (vs : Nat -> Value) (ns : Nat -> Nat) (M : Nat -> Nat -> List Value) (w wr : World) (n p q : Nat) (one more : Value) (os ms : List Value) : Prop where
 but : But (fun k => ∃ m, m < K /\ (vs m).ownBlock = some k) w wr
 hone : wr.ownsRow w.heap.size T1 1 one p os
 hmore : wr.ownsRow w.heap.size T1 1 more n ms
 om : Ap one more
 v : ∀ m, m < K -> Rd wr sz (vs m) (ns m) (mks (M m) (ns m))
 vo : ∀ m, q <= m -> m < K -> wr.ownsRow base e sz (vs m) (ns m) (mks (M m) (ns m))
 o : ∀ m, m < p -> ∀ u, os[m]? = some u -> Rd wr sz u (ns m + 1) (mks (M m) (ns m + 1)) /\ (∀ b, u.ownBlock = some b -> (vs m).ownBlock = some b \/ w.heap.size <= b) /\ Ap u one /\ Ap u more
 m : ∀ m, m < n -> ∀ u, ms[m]? = some u -> Rd wr sz u (ns m + 70) (mks (M m) (ns m + 70)) /\ (∀ b, u.ownBlock = some b -> (vs m).ownBlock = some b \/ w.heap.size <= b) /\ Ap u one /\ Ap u more
/-- The row that is gone on with. -/
structure BL (base e sz K : Nat) (vs : Nat -> Value) (ns : Nat -> Nat) (M : Nat -> Nat -> List Value) (w wr : World) (n j : Nat) (l one more : Value) (os ms : List Value) : Prop where
 own : wr.ownsRow base e sz l (ns n + j) (mks (M n) (ns n + j))
 near : ∀ b, l.ownBlock = some b -> (vs n).ownBlock = some b \/ w.heap.size <= b
 l1 : Ap l one
 l2 : Ap l more
 lv : ∀ m, m < K -> m ≠ n -> Ap l (vs m)
 lo : ∀ m, m < n -> ∀ u, os[m]? = some u -> Ap l u
 lm : ∀ m, m < n -> ∀ u, ms[m]? = some u -> Ap l u
section
variable {base T1 e sz K : Nat} {vs : Nat -> Value} {ns : Nat -> Nat} {M : Nat -> Nat -> List Value} {w wr w' : World} {n p q j : Nat} {one more l l' one' more' : Value} {os ms : List Value}
/-- A row's start. -/
theorem BL.start (h : B2 base T1 e sz K vs ns M w wr n n n one more os ms) (hn : n < K) (hlt : ∀ m, m < K -> ∀ b, (vs m).ownBlock = some b -> b < w.heap.size) (hap : ∀ i j, i < K -> j < K -> i ≠ j -> Ap (vs i) (vs j)) :
  BL base e sz K vs ns M w wr n 0 (vs n) one more os ms := by
 refine ⟨by simpa using h.vo n (Nat.le_refl _) hn, fun b hb => .inl hb, ?_, ?_, fun m hm hne => hap n m hn hm (fun e => hne e.symm), ?_, ?_⟩
 ·
  intro b hb h2
  have := (h.hone.lt b h2).1
  have := hlt n hn b hb
  omega
 ·
  intro b hb h2
  have := (h.hmore.lt b h2).1
  have := hlt n hn b hb
  omega
 ·
  intro m hm u hu b hb h2
  rcases (h.o m hm u hu).2.1 b h2 with h3 | h3
  · exact hap n m hn (by omega) (by omega) b hb h3
  · have := hlt n hn b hb; omega
 ·
  intro m hm u hu b hb h2
  rcases (h.m m hm u hu).2.1 b h2 with h3 | h3
  · exact hap n m hn (by omega) (by omega) b hb h3
  · have := hlt n hn b hb; omega
theorem B2.enter (h : B2 base T1 e sz K vs ns M w wr n p q one more os ms) : B2 base T1 e sz K vs ns M w wr n p (q + 1) one more os ms :=
 ⟨h.but, h.hone, h.hmore, h.om, h.v, fun m h1 h2 => h.vo m (by omega) h2, h.o, h.m⟩
/-- New blocks, draws. -/
theorem Rd.grow {u : Value} {xs : List Value} (h : Rd wr sz u n xs) (hb : Below wr.heap.size wr w') : Rd w' sz u n xs := h.step hb.size fun b hb1 => hb.block b (h.lt b hb1)
theorem B2.grow (h : B2 base T1 e sz K vs ns M w wr n p q one more os ms) (hb : Below wr.heap.size wr w') : B2 base T1 e sz K vs ns M w w' n p q one more os ms :=
 ⟨h.but.trans (But.of_below (C := fun _ => False) hb) fun _ _ h => h.elim, own_below h.hone hb, own_below h.hmore hb, h.om, fun m hm => (h.v m hm).grow hb, fun m h1 h2 => own_below (h.vo m h1 h2) hb,
  fun m hm u hu => ⟨(h.o m hm u hu).1.grow hb, (h.o m hm u hu).2⟩, fun m hm u hu => ⟨(h.m m hm u hu).1.grow hb, (h.m m hm u hu).2⟩⟩
theorem BL.grow (h : BL base e sz K vs ns M w wr n j l one more os ms) (hb : Below wr.heap.size wr w') : BL base e sz K vs ns M w w' n j l one more os ms :=
 ⟨own_below h.own hb, h.near, h.l1, h.l2, h.lv, h.lo, h.lm⟩
/-- One mark more on the row. -/
theorem B2.onRow (h : B2 base T1 e sz K vs ns M w wr n p (n + 1) one more os ms) (hl : BL base e sz K vs ns M w wr n j l one more os ms) (hn : n < K) (hp : p = n \/ p = n + 1 /\ 0 < j) (hj : j <= 70)
  (hown : w'.ownsRow base e sz l' (ns n + j + 1) (mks (M n) (ns n + j) ++ M n (ns n + j))) (ht : Tch wr w' l.ownBlock l'.ownBlock) (hs0 : w.heap.size <= wr.heap.size) :
  B2 base T1 e sz K vs ns M w w' n p (n + 1) one more os ms /\ (p = n -> BL base e sz K vs ns M w w' n (j + 1) l' one more os ms) /\ (p = n + 1 -> BL base e sz K vs ns M w w' n (j + 1) l' one more os ms) := by
 have hown' : w'.ownsRow base e sz l' (ns n + (j + 1)) (mks (M n) (ns n + (j + 1))) := by
  rw [show ns n + (j + 1) = ns n + j + 1 by omega, mks_succ]; exact hown
 -- what lies at the row's head stays
 have head : ∀ (u : Value) (k : Nat), k <= ns n + j -> Rd wr sz u k (mks (M n) k) -> Rd w' sz u k (mks (M n) k) := by
  intro u k hk hr
  rcases ht with ⟨e1, hg⟩ | ⟨e1, hg⟩
  ·
   by_cases hb : ∃ b, u.ownBlock = some b /\ l.ownBlock = some b
   ·
    obtain ⟨b, hb1, hb2⟩ := hb
    exact hr.pre hg.size hown' (fun c hc => by rw [e1, hb2, <- hc, hb1]) (mks_pre _ (by omega))
   · exact hr.step hg.size fun b hb1 => hg.block b (hr.lt b hb1) fun e2 => hb ⟨b, hb1, e2.symm⟩
  · exact hr.step hg.size fun b hb1 => hg.block b (hr.lt b hb1) (by simp)
 have hL : BL base e sz K vs ns M w w' n (j + 1) l' one more os ms := by
  refine ⟨hown', ?_, ?_, ?_, ?_, ?_, ?_⟩
  ·
   intro b hb
   rcases ht with ⟨e1, hg⟩ | ⟨e1, hg⟩
   · exact hl.near b (e1 ▸ hb)
   · right; rw [e1] at hb; injection hb with hb; omega
  · exact (Ap.touch hl.l1.symm (fun b hb => (h.hone.lt b hb).2) ht).symm
  · exact (Ap.touch hl.l2.symm (fun b hb => (h.hmore.lt b hb).2) ht).symm
  · exact fun m hm hne => (Ap.touch (hl.lv m hm hne).symm (fun b hb => (h.v m hm).lt b hb) ht).symm
  ·
   intro m hm u hu
   exact (Ap.touch (hl.lo m hm u hu).symm (fun b hb => (h.o m (by omega) u hu).1.lt b hb) ht).symm
  ·
   intro m hm u hu
   exact (Ap.touch (hl.lm m hm u hu).symm (fun b hb => (h.m m hm u hu).1.lt b hb) ht).symm
 refine ⟨⟨?_, ?_, ?_, h.om, ?_, ?_, ?_, ?_⟩, fun _ => hL, fun _ => hL⟩
 ·
  exact ht.but h.but fun k hk hlt => by
   rcases hl.near k hk with h3 | h3
   · exact ⟨n, hn, h3⟩
   · omega
 · exact ht.own h.hone fun b hb h2 => hl.l1 b h2 hb
 · exact ht.own h.hmore fun b hb h2 => hl.l2 b h2 hb
 ·
  intro m hm
  by_cases e1 : m = n
  · subst e1; exact head _ _ (by omega) (h.v m hm)
  · exact ht.rd (h.v m hm) fun b hb h2 => hl.lv m hm e1 b h2 hb
 ·
  intro m h1 h2
  exact ht.own (h.vo m h1 h2) fun b hb h3 => hl.lv m h2 (by omega) b h3 hb
 ·
  intro m hm u hu
  obtain ⟨h1, h2, h3, h4⟩ := h.o m hm u hu
  refine ⟨?_, h2, h3, h4⟩
  by_cases e1 : m = n
  ·
   subst e1
   rcases hp with hp | ⟨hp, hj0⟩
   · omega
   · exact head _ _ (by omega) h1
  · exact ht.rd h1 fun b hb h5 => hl.lo m (by omega) u hu b h5 hb
 ·
  intro m hm u hu
  obtain ⟨h1, h2, h3, h4⟩ := h.m m hm u hu
  exact ⟨ht.rd h1 fun b hb h5 => hl.lm m hm u hu b h5 hb, h2, h3, h4⟩
/-- The row, one mark longer, is kept in 'one'. -/
theorem B2.onOne (h : B2 base T1 e sz K vs ns M w wr n n (n + 1) one more os ms) (hl : BL base e sz K vs ns M w wr n 1 l one more os ms) (hn : n < K) (hlt : ∀ m, m < K -> ∀ b, (vs m).ownBlock = some b -> b < w.heap.size)
  (hown : w'.ownsRow w.heap.size T1 1 one' (n + 1) (os ++ [l])) (ht : Tch wr w' one.ownBlock one'.ownBlock) :
  B2 base T1 e sz K vs ns M w w' n (n + 1) (n + 1) one' more (os ++ [l]) ms /\ BL base e sz K vs ns M w w' n 1 l one' more (os ++ [l]) ms := by
 have hos : os.length = n := by have := h.hone.1; omega
 have hlr := Rd.of_own hl.own
 have far : ∀ m, m < K -> ∀ b, (vs m).ownBlock = some b -> one.ownBlock ≠ some b := fun m hm b hb h2 => by
  have := (h.hone.lt b h2).1; have := hlt m hm b hb; omega
 have split : ∀ (m : Nat) (u : Value), m < n + 1 -> (os ++ [l])[m]? = some u -> (m < n /\ os[m]? = some u) \/ (m = n /\ u = l) := by
  intro m u hm hu
  by_cases e1 : m < n
  · rw [List.getElem?_append_left (by omega)] at hu; exact .inl ⟨e1, hu⟩
  ·
   obtain rfl : m = n := by omega
   rw [List.getElem?_append_right (by omega), hos] at hu
   simp at hu; exact .inr ⟨rfl, hu.symm⟩
 refine ⟨⟨?_, hown, ?_, ?_, ?_, ?_, ?_, ?_⟩, ⟨?_, hl.near, ?_, hl.l2, hl.lv, ?_, hl.lm⟩⟩
 · exact ht.but h.but fun k hk hk2 => by have := (h.hone.lt k hk).1; omega
 · exact ht.own h.hmore fun b hb h2 => h.om b h2 hb
 · exact (Ap.touch h.om.symm (fun b hb => (h.hmore.lt b hb).2) ht).symm
 · exact fun m hm => ht.rd (h.v m hm) fun b hb => far m hm b hb
 · exact fun m h1 h2 => ht.own (h.vo m h1 h2) fun b hb => far m h2 b hb
 ·
  intro m hm u hu
  rcases split m u hm hu with ⟨e1, hu⟩ | ⟨rfl, rfl⟩
  ·
   obtain ⟨h1, h2, h3, h4⟩ := h.o m e1 u hu
   exact ⟨ht.rd h1 h3, h2, h3.touch h1.lt ht, h4⟩
  · exact ⟨ht.rd hlr hl.l1, hl.near, hl.l1.touch hlr.lt ht, hl.l2⟩
 ·
  intro m hm u hu
  obtain ⟨h1, h2, h3, h4⟩ := h.m m hm u hu
  exact ⟨ht.rd h1 h3, h2, h3.touch h1.lt ht, h4⟩
 · exact ht.own hl.own hl.l1
 · exact hl.l1.touch hlr.lt ht
 ·
  intro m hm u hu
  rcases split m u (by omega) hu with ⟨e1, hu⟩ | ⟨e1, _⟩
  · exact hl.lo m e1 u hu
  · omega
/-- The row, gone on with to its end, is kept in 'more'; the next one. -/
theorem B2.onMore (h : B2 base T1 e sz K vs ns M w wr n (n + 1) (n + 1) one more os ms) (hl : BL base e sz K vs ns M w wr n 70 l one more os ms) (hn : n < K) (hlt : ∀ m, m < K -> ∀ b, (vs m).ownBlock = some b -> b < w.heap.size)
  (hown : w'.ownsRow w.heap.size T1 1 more' (n + 1) (ms ++ [l])) (ht : Tch wr w' more.ownBlock more'.ownBlock) :
  B2 base T1 e sz K vs ns M w w' (n + 1) (n + 1) (n + 1) one more' os (ms ++ [l]) := by
 have hms : ms.length = n := by have := h.hmore.1; omega
 have hlr := Rd.of_own hl.own
 have far : ∀ m, m < K -> ∀ b, (vs m).ownBlock = some b -> more.ownBlock ≠ some b := fun m hm b hb h2 => by
  have := (h.hmore.lt b h2).1; have := hlt m hm b hb; omega
 refine ⟨?_, ?_, hown, ?_, ?_, ?_, ?_, ?_⟩
 · exact ht.but h.but fun k hk hk2 => by have := (h.hmore.lt k hk).1; omega
 · exact ht.own h.hone fun b hb h2 => h.om b hb h2
 · exact h.om.touch (fun b hb => (h.hone.lt b hb).2) ht
 · exact fun m hm => ht.rd (h.v m hm) fun b hb => far m hm b hb
 · exact fun m h1 h2 => ht.own (h.vo m h1 h2) fun b hb => far m h2 b hb
 ·
  intro m hm u hu
  obtain ⟨h1, h2, h3, h4⟩ := h.o m hm u hu
  exact ⟨ht.rd h1 h4, h2, h3, h4.touch h1.lt ht⟩
 ·
  intro m hm u hu
  by_cases e1 : m < n
  ·
   rw [List.getElem?_append_left (by omega)] at hu
   obtain ⟨h1, h2, h3, h4⟩ := h.m m e1 u hu
   exact ⟨ht.rd h1 h4, h2, h3, h4.touch h1.lt ht⟩
  ·
   obtain rfl : m = n := by omega
   rw [List.getElem?_append_right (by omega), hms] at hu
   simp at hu
   subst hu
   exact ⟨ht.rd hlr hl.l2, hl.near, hl.l1, hl.l2.touch hlr.lt ht⟩
end
/-! ### The look's first part: all rows are filled with marks -/
theorem setCells_heap (g : Nat) (e : TypeId) (z : Nat × Nat) : ∀ (ws : List Value) (o : Nat) (w : World) (cur : Array Value), w.heap[g]? = some (.cells cur e z) -> o + ws.length <= cur.size ->
  ∃ c' : Array Value, (w.setCells g o ws).heap[g]? = some (.cells c' e z) /\ c'.size = cur.size /\ ∀ j, c'[j]? = if o <= j /\ j < o + ws.length then ws[j - o]? else cur[j]?
 | [], o, w, cur, h, _ => ⟨cur, h, rfl, fun j => by rw [if_neg (by simp)]⟩
 | v :: r, o, w, cur, h, hl => by
  have h1 : (w.setCell ⟨g, o, none⟩ v).heap[g]? = some (.cells (cur.setIfInBounds o v) e z) := by simp [World.setCell, Array.getElem?_modify, h]
  obtain ⟨c', h2, h3, h4⟩ := setCells_heap g e z r (o + 1) _ _ h1 (by simp at hl ⊢; omega)
  refine ⟨c', h2, by simpa using h3, fun j => ?_⟩
  rw [h4 j]
  simp only [List.length_cons] at hl ⊢
  by_cases e1 : j = o
  ·
   subst e1
   rw [if_neg (by omega), if_pos (by omega), Nat.sub_self]
   simp only [List.getElem?_cons_zero]
   rw [Array.getElem?_setIfInBounds_self_of_lt (by omega)]
  ·
   by_cases e2 : o + 1 <= j /\ j < o + 1 + r.length
   · rw [if_pos e2, if_pos (by omega), show j - o = (j - (o + 1)) + 1 by omega, List.getElem?_cons_succ]
   · rw [if_neg e2, if_neg (by omega), Array.getElem?_setIfInBounds_ne (fun h => e1 h.symm)]
theorem setCells_other (g : Nat) : ∀ (ws : List Value) (o : Nat) (w : World) (k : Nat), k ≠ g -> (w.setCells g o ws).heap[k]? = w.heap[k]?
 | [], _, _, _, _ => rfl
 | v :: r, o, w, k, h => by rw [World.setCells, setCells_other g r (o + 1) _ k h, Below.heap_setCell _ _ _ _ h]
theorem setCells_size (g : Nat) : ∀ (ws : List Value) (o : Nat) (w : World), (w.setCells g o ws).heap.size = w.heap.size /\ (w.setCells g o ws).os = w.os /\ (w.setCells g o ws).tape = w.tape /\ (w.setCells g o ws).output = w.output
 | [], _, _ => ⟨rfl, rfl, rfl, rfl⟩
 | v :: r, o, w => by
  obtain ⟨h1, h2, h3, h4⟩ := setCells_size g r (o + 1) (w.setCell ⟨g, o, none⟩ v)
  exact ⟨by rw [World.setCells, h1]; simp [World.setCell], h2, h3, h4⟩
theorem own_setCells {w : World} {base n g c i sz : Nat} {e : TypeId} {xs ws : List Value} (h : w.ownsRow base e sz (.slice (some ⟨g, 0, none⟩) n c) n xs) (hw : ws.length = sz) (hi : i < n) :
  (w.setCells g (i * sz) ws).ownsRow base e sz (.slice (some ⟨g, 0, none⟩) n c) n (xs.take (i * sz) ++ ws ++ xs.drop ((i + 1) * sz)) := by
 rcases h.2 with ⟨hv, _⟩ | ⟨g', cap, cur, hv, hbg, hg, hnc, hcm, hcs, htake⟩
 · cases hv
 ·
  injection hv with e1 _ e3
  injection e1 with e1
  injection e1 with e1
  subst e1 e3
  have hx := h.1
  have m1 : (i + 1) * sz <= n * sz := Nat.mul_le_mul_right _ hi
  have m2 : n * sz <= c * sz := Nat.mul_le_mul_right _ hnc
  have m3 : (i + 1) * sz = i * sz + sz := by rw [Nat.add_mul]; omega
  obtain ⟨c', h1, h2, h3⟩ := setCells_heap g e (0, 0) ws (i * sz) w cur hg (by omega)
  refine ⟨by simp only [List.length_append, List.length_take, List.length_drop]; omega, .inr ⟨g, c, c', rfl, hbg, h1, hnc, hcm, by omega, ?_⟩⟩
  apply List.ext_getElem?
  intro j
  rw [List.getElem?_take, Array.getElem?_toList, h3]
  have hcx : ∀ j, j < n * sz -> cur[j]? = xs[j]? := fun j hj => by rw [<- htake, List.getElem?_take, if_pos hj, Array.getElem?_toList]
  by_cases hj : j < n * sz
  ·
   rw [if_pos hj]
   by_cases a1 : j < i * sz
   · rw [if_neg (by omega), List.append_assoc, List.getElem?_append_left (by rw [List.length_take]; omega), List.getElem?_take, if_pos a1, hcx j hj]
   ·
    by_cases a2 : j < i * sz + sz
    ·
     rw [if_pos (by omega), List.append_assoc, List.getElem?_append_right (by rw [List.length_take]; omega), List.getElem?_append_left (by rw [List.length_take]; omega), List.length_take]
     congr 1; omega
    ·
     rw [if_neg (by omega), List.getElem?_append_right (by rw [List.length_append, List.length_take]; omega), List.getElem?_drop, List.length_append, List.length_take, hcx j hj]
     congr 1; omega
  ·
   rw [if_neg hj, eq_comm, List.getElem?_eq_none]
   simp only [List.length_append, List.length_take, List.length_drop]; omega
theorem own_setCells_other {w : World} {base n g o sz : Nat} {e : TypeId} {v : Value} {xs ws : List Value} (h : w.ownsRow base e sz v n xs) (hv : v.ownBlock ≠ some g) :
  (w.setCells g o ws).ownsRow base e sz v n xs := by
 refine ⟨h.1, ?_⟩
 rcases h.2 with h2 | ⟨g', cap, cur, rfl, hbg, hg, r⟩
 · exact .inl h2
 · exact .inr ⟨g', cap, cur, rfl, hbg, (setCells_other g ws o w g' (fun e => hv (by simp [Value.ownBlock, e]))).trans hg, r⟩
structure B1 (base e sz K : Nat) (vs : Nat -> Value) (ns : Nat -> Nat) (M : Nat -> Nat -> List Value) (w wr : World) (k i : Nat) : Prop where
 but : But (fun b => ∃ m, m < K /\ (vs m).ownBlock = some b) w wr
 row : ∀ m, m < K -> ∃ xs, wr.ownsRow base e sz (vs m) (ns m) xs /\ (m < k -> xs = mks (M m) (ns m)) /\ (m = k -> xs.take (i * sz) = mks (M m) i)
section
variable {base T1 e sz K : Nat} {vs : Nat -> Value} {ns : Nat -> Nat} {M : Nat -> Nat -> List Value} {w wr w' : World} {k i : Nat}
theorem B1.start (h : ∀ m, m < K -> ∃ xs, w.ownsRow base e sz (vs m) (ns m) xs) : B1 base e sz K vs ns M w w 0 0 :=
 ⟨But.refl _ _, fun m hm => by
  obtain ⟨xs, hx⟩ := h m hm
  exact ⟨xs, hx, fun h => by omega, fun _ => by simp [mks]⟩⟩
theorem B1.mark (h : B1 base e sz K vs ns M w wr k i) (hM : ∀ n i, (M n i).length = sz) (hk : k < K) (hi : i < ns k) (hap : ∀ i j, i < K -> j < K -> i ≠ j -> Ap (vs i) (vs j))
  {g c n : Nat} (hv : vs k = .slice (some ⟨g, 0, none⟩) n c) : B1 base e sz K vs ns M w (wr.setCells g (i * sz) (M k i)) k (i + 1) := by
 obtain ⟨hs1, hs2, hs3, hs4⟩ := setCells_size g (M k i) (i * sz) wr
 have hb : (vs k).ownBlock = some g := by rw [hv]; rfl
 refine ⟨⟨hs2.trans h.but.os, hs3.trans h.but.tape, hs4.trans h.but.output, by rw [hs1]; exact h.but.size, fun b hb1 hb2 => ?_⟩, fun m hm => ?_⟩
 · rw [setCells_other g _ _ _ b (fun e => hb2 ⟨k, hk, e ▸ hb⟩)]; exact h.but.block b hb1 hb2
 ·
  obtain ⟨xs, h1, h2, h3⟩ := h.row m hm
  by_cases e1 : m = k
  ·
   subst e1
   have hn : n = ns m := by
    obtain ⟨A, c', e1, _⟩ := Rd.of_own h1
    rw [hv] at e1; injection e1
   subst hn
   rw [hv] at h1
   refine ⟨_, hv ▸ own_setCells h1 (hM m i) hi, fun h => by omega, fun _ => ?_⟩
   have hx := h1.1
   have m1 : (i + 1) * sz <= ns m * sz := Nat.mul_le_mul_right _ hi
   have m3 : (i + 1) * sz = i * sz + sz := by rw [Nat.add_mul]; omega
   rw [mks_succ, <- h3 rfl, List.take_append_of_le_length (by simp only [List.length_append, List.length_take, hM]; omega), List.take_of_length_le (by simp only [List.length_append, List.length_take, hM]; omega)]
  · exact ⟨xs, own_setCells_other h1 (fun h => hap k m hk hm (fun e => e1 e.symm) g hb h), h2, fun h => absurd h e1⟩
theorem B1.mark1 {v : Value} (h : B1 base e 1 K vs ns M w wr k i) (hM : ∀ n i, (M n i).length = 1) (hk : k < K) (hi : i < ns k) (hap : ∀ i j, i < K -> j < K -> i ≠ j -> Ap (vs i) (vs j))
  {g c n : Nat} (hv : vs k = .slice (some ⟨g, 0, none⟩) n c) (hm : M k i = [v]) : B1 base e 1 K vs ns M w (wr.setCell ⟨g, i, none⟩ v) k (i + 1) := by
 have := h.mark hM hk hi hap hv
 rw [hm, Nat.mul_one] at this
 exact this
theorem B1.drewN (h : B1 base e sz K vs ns M w wr k i) (n : Nat) : B1 base e sz K vs ns M w (wr.drewN n) k i :=
 ⟨h.but.drewN n, fun m hm => h.row m hm⟩
theorem B1.drew (h : B1 base e sz K vs ns M w wr k i) : B1 base e sz K vs ns M w wr.drew k i := h.drewN 1
theorem B1.grow (h : B1 base e sz K vs ns M w wr k i) (hb : Below wr.heap.size wr w') : B1 base e sz K vs ns M w w' k i :=
 ⟨h.but.trans (But.of_below (C := fun _ => False) hb) fun _ _ h => h.elim, fun m hm => by
  obtain ⟨xs, h1, h2⟩ := h.row m hm
  exact ⟨xs, own_below h1 hb, h2⟩⟩
theorem B1.next (h : B1 base e sz K vs ns M w wr k (ns k)) : B1 base e sz K vs ns M w wr (k + 1) 0 := by
 refine ⟨h.but, fun m hm => ?_⟩
 obtain ⟨xs, h1, h2, h3⟩ := h.row m hm
 refine ⟨xs, h1, fun h4 => ?_, fun _ => by simp [mks]⟩
 by_cases e1 : m = k
 ·
  subst e1
  rw [<- h3 rfl, List.take_of_length_le (by rw [h1.1]; exact Nat.le_refl _)]
 · exact h2 (by omega)
theorem B1.done (h : B1 base e sz K vs ns M w wr K 0) (hT : w.heap.size <= wr.heap.size) : B2 base T1 e sz K vs ns M w wr 0 0 0 (.slice none 0 0) (.slice none 0 0) [] [] := by
 have ho : ∀ m, m < K -> wr.ownsRow base e sz (vs m) (ns m) (mks (M m) (ns m)) := fun m hm => by
  obtain ⟨xs, h1, h2, _⟩ := h.row m hm
  rw [<- h2 hm]; exact h1
 exact ⟨h.but, World.ownsRow_nil _ _ _ _, World.ownsRow_nil _ _ _ _, Ap.nil _, fun m hm => Rd.of_own (ho m hm), fun m _ hm => ho m hm, fun m hm => by omega, fun m hm => by omega⟩
/-- A row to be filled: its place. -/
theorem B1.at_ (h : B1 base e sz K vs ns M w wr k i) (hk : k < K) : ∃ A c, vs k = .slice A (ns k) c /\ ns k <= c /\ c <= maxLen /\ (i < ns k -> ∃ g, A = some ⟨g, 0, none⟩ /\ base <= g /\ g < wr.heap.size /\ wr.there g (i * sz) sz) := by
 obtain ⟨xs, h1, h2, h3⟩ := h.row k hk
 rcases h1.2 with ⟨e1, e2⟩ | ⟨g, cap, cur, e1, hbg, hg, hnc, hcm, hcs, htake⟩
 · exact ⟨none, 0, by rw [e1, e2], by omega, by unfold maxLen; omega, fun h => by omega⟩
 ·
  refine ⟨_, cap, e1, hnc, hcm, fun hi => ⟨g, rfl, hbg, (Array.getElem?_eq_some_iff.1 hg).1, fun j hj => ⟨?_, ?_⟩⟩⟩
  ·
   have m1 : (i + 1) * sz <= ns k * sz := Nat.mul_le_mul_right _ hi
   have m2 : ns k * sz <= cap * sz := Nat.mul_le_mul_right _ hnc
   have m3 : (i + 1) * sz = i * sz + sz := by rw [Nat.add_mul]; omega
   have : i * sz + j < cur.size := by omega
   simp [World.cell?, hg, this]
  · simp [World.frozen?, hg]
end
end Go.Proofs.YtobplngonkdbpaaGreatDoor.B
/- BagAZ -/
namespace Go.Proofs.YtobplngonkdbpaaGreatDoor.B
open Go.RowKit
set_option linter.unusedSimpArgs false
set_option linter.unusedVariables false
theorem info_parts3 {P : Program} {e : TypeId} {z : Value} {sz by_ : Nat} (h : (P.info? e).map (fun i => (i.zero, i.size, i.bytes)) = some (some z, sz, by_)) : ∃ i, P.info? e = some i /\ i.zero = some z /\ i.size = sz /\ i.bytes = by_ := by
 obtain ⟨i, hi, h⟩ := Option.map_eq_some_iff.1 h
 simp only [Prod.mk.injEq] at h
 exact ⟨i, hi, h.1, h.2.1, h.2.2⟩
end Go.Proofs.YtobplngonkdbpaaGreatDoor.B
/- BagQ -/
namespace Go.Proofs.YtobplngonkdbpaaGreatDoor.B
open Go.RowKit
set_option linter.unusedSimpArgs false
set_option linter.unusedVariables false
/-- Behind AddCos, told finely: the bag's kind q has one list more; nothing but the bag and its row is touched; where the row lies. -/
def AddO (gb base q n : Nat) (TB TL : TypeId) (f : Nat -> Value) (vs : List Value) (l : Value) (w : World) (e : Ending) (w' : World) : Prop :=
 e = .returned (.tuple #[]) /\ ∃ f', w'.rowIs gb TB 18 f' /\ (∀ k, k ≠ q -> f' k = f k) /\ w'.ownsRow base TL 1 (f' q) (n + 1) (vs ++ [l]) /\ But (fun k => k = gb \/ (f q).ownBlock = some k) w w' /\ ∀ b, (f' q).ownBlock = some b -> (f q).ownBlock = some b \/ w.heap.size <= b
theorem But.setCell {C : Nat -> Prop} {a w : World} (h : But C a w) {p : Addr} (hp : C p.block) (u : Value) : But C a (w.setCell p u) :=
 ⟨h.os, h.tape, h.output, by rw [World.size_setCell]; exact h.size, fun k hk hc => (Below.heap_setCell w p u k (fun e => hc (e ▸ hp))).trans (h.block k hk hc)⟩
theorem infoLCos : (Tryz.prog.info? 82).map (fun i => (i.zero, i.size, i.bytes)) = some (some (.slice none 0 0), 1, 24) := by kernel_rfl
end Go.Proofs.YtobplngonkdbpaaGreatDoor.B
/- BagI -/
namespace Go.Proofs.YtobplngonkdbpaaGreatDoor.B
open Go.RowKit
set_option linter.unusedSimpArgs false
set_option linter.unusedVariables false
theorem bnum_any (n i : Int) (w : World) (h0 : 0 <= n) (h1 : n <= 1048576) (h2 : 0 <= i) (h3 : i <= 4611686018427387904) :
  Calls Tryz.prog 90 #[.int .i64 n, .int .i64 i] w fun e w' => e = .returned (.int .i64 (1048576 * n + i + 1)) /\ w = w' := by
 go_enter Tryz.func90, Tryz.ntmps90
 go_wp2
 go_ret
 exact ⟨rfl, rfl⟩
/-- The bag's list of kind q, and its lists, as the walk reads them. -/
structure Shelfed (gb q K : Nat) (w : World) (ob oc : Nat) (vs : Nat -> Value) (W : World) : Prop where
 c : W.cell? ⟨gb, q, none⟩ = some (.slice (some ⟨ob, 0, none⟩) K oc)
 e : ∀ m, m < K -> W.cell? ⟨ob, m, none⟩ = some (vs m)
theorem shelfed_but {gb q K : Nat} {w : World} {ob oc : Nat} {vs : Nat -> Value} {W : World} (h : Shelfed gb q K w ob oc vs w) (hg : gb < w.heap.size) (ho : ob < w.heap.size) (h1 : ∀ m, m < K -> (vs m).ownBlock ≠ some gb) (h2 : ∀ m, m < K -> (vs m).ownBlock ≠ some ob)
  (hb : But (fun k => ∃ m, m < K /\ (vs m).ownBlock = some k) w W) : Shelfed gb q K w ob oc vs W :=
 ⟨(World.cell?_of_block (w := w) (hb.block gb hg fun ⟨m, hm, e⟩ => h1 m hm e)).trans h.c, fun m hm => (World.cell?_of_block (w := w) (hb.block ob ho fun ⟨k, hk, e⟩ => h2 k hk e)).trans (h.e m hm)⟩
end Go.Proofs.YtobplngonkdbpaaGreatDoor.B
/- Blk -/
namespace Go.Proofs.YtobplngonkdbpaaGreatDoor.B
open Go.RowKit
/-- Block g is just these cells of element type t, none frozen. -/
def Blk (w : World) (g : Nat) (t : TypeId) (cs : Array Value) : Prop := w.heap[g]? = some (.cells cs t (0, 0))
section
variable {w w' : World} {g : Nat} {t : TypeId} {cs : Array Value}
theorem Blk.lt (h : Blk w g t cs) : g < w.heap.size := by
 rcases Nat.lt_or_ge g w.heap.size with hlt | hge
 · exact hlt
 · unfold Blk at h; rw [Array.getElem?_eq_none hge] at h; cases h
theorem Blk.cell (h : Blk w g t cs) (i : Nat) : w.cell? ⟨g, i, none⟩ = cs[i]? := cell_of_row w g i cs t (0, 0) h
theorem Blk.frozen (h : Blk w g t cs) (i : Nat) : w.frozen? ⟨g, i, none⟩ = false := by
 unfold Blk at h
 simp [World.frozen?, h]
theorem Blk.new (w : World) (t : TypeId) (cs : Array Value) : Blk (w.alloc (.cells cs t)) w.heap.size t cs := heap_alloc_new w _
theorem Blk.drew (h : Blk w g t cs) : Blk w.drew g t cs := h
theorem Blk.drewN (h : Blk w g t cs) (n : Nat) : Blk (w.drewN n) g t cs := h
theorem Blk.alloc (h : Blk w g t cs) (o : Obj) : Blk (w.alloc o) g t cs := (Below.heap_alloc w o g h.lt).trans h
theorem Blk.set_ (h : Blk w g t cs) (i : Nat) (u : Value) : Blk (w.setCell ⟨g, i, none⟩ u) g t (cs.setIfInBounds i u) := by
 unfold Blk at h ⊢
 simp [World.setCell, Array.getElem?_modify, h]
theorem Blk.far (h : Blk w g t cs) {p : Addr} (hp : g ≠ p.block) (u : Value) : Blk (w.setCell p u) g t cs := (Below.heap_setCell w p u g hp).trans h
theorem Blk.below {B : Nat} (h : Blk w g t cs) (hb : Below B w w') (hg : g < B) : Blk w' g t cs := (hb.block g hg).trans h
theorem Blk.grown {row : Option Nat} (h : Blk w g t cs) (hb : w.grownBy w' row) (hg : some g ≠ row) : Blk w' g t cs := (hb.block g h.lt hg).trans h
theorem below_set {B b i : Nat} {a : World} (h : Below B a w) (hB : B <= b) (u : Value) : Below B a (w.setCell ⟨b, i, none⟩ u) := h.setCell hB u
end
end Go.Proofs.YtobplngonkdbpaaGreatDoor.B
