/- Contract: cut's inner function (the word so far is a token). -/
import Derived.Test.YthonnpjlkcjoeaaGreatDoorRdZ
import Derived.Lib.OthersKept
import Derived.WalkSmall
import Derived.Deep.RegionLaw
namespace Go.Proofs.YthonnpjlkcjoeaaGreatDoor.T
open Go.RowKit Go.Proofs.YthonnpjlkcjoeaaGreatDoor.B
set_option linter.unusedSimpArgs false
set_option linter.unusedVariables false

def tokV (t : Tok) : List Value := [.string (bs t.tx), .int .i64 t.pl, .bool t.bad]
def tcells (l : List Tok) : List Value := l.flatMap tokV
theorem tcells_snoc (l : List Tok) (t : Tok) : tcells (l ++ [t]) = tcells l ++ tokV t := by simp [tcells]
theorem tcells_len (l : List Tok) : (tcells l).length = l.length * 3 := by
  induction l with
  | nil => rfl
  | cons t l ih => simp only [tcells, List.flatMap_cons, List.length_append, List.length_cons] at *; rw [ih]; simp [tokV]; omega

theorem infoTok : (Tryz.prog.info? 132).map (fun i => (i.zero, i.size, i.bytes)) = some (some (.agg #[.string ⟨#[]⟩, .int .i64 0, .bool false]), 3, 32) := by kernel_rfl

theorem Sl.three (w : World) (a b c : Value) (T : TypeId) : Sl (w.alloc (.cells #[a, b, c] T)) (w.heap.size + 1) 3 (some ⟨w.heap.size, 0, none⟩) 1 [a, b, c] := by
  refine ⟨rfl, .inr ⟨w.heap.size, 0, rfl, by omega, fun j u hu => ?_⟩⟩
  match j, hu with
  | 0, hu => simp at hu; subst hu; simp
  | 1, hu => simp at hu; subst hu; simp
  | 2, hu => simp at hu; subst hu; simp

/-- What cut has in hand: its boxes g (the text), g + 1 (the tokens), g + 2 (where the word began), its iterator g + 3. -/
structure CutSt (w0 W : World) (g : Nat) (s : ByteArray) (vl : Value) (l : List Tok) (word : Int) (pos : Nat) : Prop where
  hs : Blk W g 9 #[.string s]
  hl : Blk W (g + 1) 127 #[vl]
  hw : Blk W (g + 2) 3 #[.int .i64 word]
  it : W.heap[g + 3]? = some (.stringIter s pos)
  own : W.ownsRow (g + 4) 132 3 vl l.length (tcells l)
  b : Below g w0 W

theorem grown_set (W : World) (b i : Nat) (v : Value) : W.grownBy (W.setCell ⟨b, i, none⟩ v) (some b) :=
  ⟨rfl, rfl, rfl, by simp, fun k hk hne => Below.heap_setCell W ⟨b, i, none⟩ v k (fun e => hne (by rw [e]))⟩

theorem CutSt.size {w0 W : World} {g : Nat} {s : ByteArray} {vl : Value} {l : List Tok} {word : Int} {pos : Nat} (h : CutSt w0 W g s vl l word pos) : g + 4 ≤ W.heap.size := by
  have := (Array.getElem?_eq_some_iff.1 h.it).1; omega

/-- A token more. -/
theorem CutSt.more {w0 W W2 : World} {g : Nat} {s : ByteArray} {vl v' : Value} {l : List Tok} {word : Int} {pos : Nat} (h : CutSt w0 W g s vl l word pos) (t : Tok) (o : Obj)
    (ho : W2.ownsRow (g + 4) 132 3 v' (l.length + 1) (tcells l ++ tokV t)) (hg : (W.alloc o).grownBy W2 vl.ownBlock) : CutSt w0 (W2.setCell ⟨g + 1, 0, none⟩ v') g s v' (l ++ [t]) word pos := by
  have hz := h.size
  have hk : ∀ i, i < g + 4 → W2.heap[i]? = W.heap[i]? := by
    intro i hi
    have h1 : (W.alloc o).heap[i]? = W.heap[i]? := Below.heap_alloc W o i (by omega)
    rw [← h1]
    refine hg.block i (by simp; omega) ?_
    intro e
    have := (h.own.lt i e.symm).1
    omega
  have hk2 : ∀ i, i < g + 4 → i ≠ g + 1 → (W2.setCell ⟨g + 1, 0, none⟩ v').heap[i]? = W.heap[i]? := by
    intro i hi hne
    rw [Below.heap_setCell W2 ⟨g + 1, 0, none⟩ v' i (by simpa using hne)]
    exact hk i hi
  have hl2 : Blk W2 (g + 1) 127 #[vl] := (hk (g + 1) (by omega)).trans h.hl
  refine ⟨(hk2 g (by omega) (by omega)).trans h.hs, hl2.set_ 0 v', (hk2 (g + 2) (by omega) (by omega)).trans h.hw, (hk2 (g + 3) (by omega) (by omega)).trans h.it, ?_, ?_⟩
  · rw [tcells_snoc, List.length_append]
    exact ho.kept (grown_set W2 (g + 1) 0 v') (by
      rcases hv : v'.ownBlock with _ | q
      · exact .inl rfl
      · right
        intro e
        have h1 := (ho.lt q hv).1
        have h2 : q = g + 1 := Option.some.inj e
        omega)
  · refine ((h.b.alloc (by omega) o).grown hg (by simp; omega) (fun q hq => by have := (h.own.lt q hq).1; omega)).setCell (by simp) _

theorem CutSt.boxed {w0 W W2 : World} {g : Nat} {s : ByteArray} {vl : Value} {l : List Tok} {word : Int} {pos : Nat} (h : CutSt w0 W g s vl l word pos) (o : Obj) (hg : (W.alloc o).grownBy W2 vl.ownBlock) :
    (W2.cell? ⟨g + 1, 0, none⟩ = some vl ∧ W2.frozen? ⟨g + 1, 0, none⟩ = false) ∧ W2.cell? ⟨g + 2, 0, none⟩ = some (.int .i64 word) ∧ W2.frozen? ⟨g + 2, 0, none⟩ = false := by
  have hz := h.size
  have e0 : (W.alloc o).heap.size = W.heap.size + 1 := by simp
  have hk : ∀ i, i < g + 4 → W2.heap[i]? = W.heap[i]? := by
    intro i hi
    have h1 : (W.alloc o).heap[i]? = W.heap[i]? := Below.heap_alloc W o i (by omega)
    rw [← h1]
    refine hg.block i (by rw [e0]; omega) ?_
    intro e
    have := (h.own.lt i e.symm).1
    omega
  have hl2 : Blk W2 (g + 1) 127 #[vl] := (hk _ (by omega)).trans h.hl
  have hw2 : Blk W2 (g + 2) 3 #[.int .i64 word] := (hk _ (by omega)).trans h.hw
  exact ⟨⟨(hl2.cell 0).trans rfl, hl2.frozen 0⟩, (hw2.cell 0).trans rfl, hw2.frozen 0⟩

theorem CutSt.word_ {w0 W : World} {g : Nat} {s : ByteArray} {vl : Value} {l : List Tok} {word : Int} {pos : Nat} (h : CutSt w0 W g s vl l word pos) (k : Int) : CutSt w0 (W.setCell ⟨g + 2, 0, none⟩ (.int .i64 k)) g s vl l k pos := by
  refine ⟨h.hs.far (by simp) _, h.hl.far (by simp) _, h.hw.set_ 0 _, ?_, ?_, h.b.setCell (by simp) _⟩
  · rw [Below.heap_setCell W ⟨g + 2, 0, none⟩ _ (g + 3) (by simp)]; exact h.it
  · exact h.own.kept (grown_set W (g + 2) 0 _) (by
      rcases hv : vl.ownBlock with _ | q
      · exact .inl rfl
      · right
        intro e
        have h1 := (h.own.lt q hv).1
        have h2 : q = g + 2 := Option.some.inj e
        omega)

theorem CutSt.draw {w0 W : World} {g : Nat} {s : ByteArray} {vl : Value} {l : List Tok} {word : Int} {pos : Nat} (h : CutSt w0 W g s vl l word pos) : CutSt w0 W.drew g s vl l word pos :=
  ⟨h.hs, h.hl, h.hw, h.it, h.own, h.b.drew⟩

set_option maxRecDepth 100000 in
theorem flush_no (g : Nat) (s : ByteArray) (vl : Value) (l : List Tok) (pos : Nat) (en : Int) (w0 w : World) (h : CutSt w0 w g s vl l (-1) pos) :
    Calls Tryz.prog 74 #[.int .i64 en, ptr (g + 2), ptr (g + 1), ptr g] w fun e w' => e = .returned (.tuple #[]) ∧ w = w' := by
  have c2 := h.hw.cell 0
  simp only [List.getElem?_toArray, List.getElem?_cons_zero] at c2
  clear h
  go_enter Tryz.func74, Tryz.ntmps74
  go_wp2
  go_end0
  exact ⟨rfl, rfl⟩

set_option maxRecDepth 100000 in
set_option maxHeartbeats 1000000 in
theorem flush_yes (g : Nat) (s : ByteArray) (vl : Value) (l : List Tok) (pos k en : Nat) (w0 w : World) (h : CutSt w0 w g s vl l k pos) (h1 : k ≤ en) (h2 : en ≤ s.size) (hs : s.size ≤ 4611686018427387904) (hn : l.length ≤ 4294967296) :
    Calls Tryz.prog 74 #[.int .i64 en, ptr (g + 2), ptr (g + 1), ptr g] w fun e w' => e = .returned (.tuple #[]) ∧ ∃ v', CutSt w0 w' g s v' (l ++ [⟨(s.data.toList.drop k).take (en - k), k, false⟩]) (-1) pos := by
  obtain ⟨i0, hi0, hz0, hz1, hz2⟩ := info_parts infoTok
  have hz := h.size
  have c0 := h.hs.cell 0
  have c1 := h.hl.cell 0
  have c2 := h.hw.cell 0
  simp only [List.getElem?_toArray, List.getElem?_cons_zero] at c0 c1 c2
  have f1 := h.hl.frozen 0
  have f2 := h.hw.frozen 0
  have HH := Lib.hid h
  clear h
  go_enter Tryz.func74, Tryz.ntmps74
  go_wp2_with fail
  have hown := HH.out.own
  have s0 : (w.drew.alloc (.cells #[.string (s.extract k en), .int .i64 k, .bool false] 132)).ownsRow (g + 4) 132 3 vl l.length (tcells l) := World.ownsRow.alloc (w := w.drew) hown _
  have s1 : ∀ u ∈ [Value.string (s.extract k en), .int .i64 k, .bool false], u.oneCell' = true := by intro u hu; simp at hu; rcases hu with rfl | rfl | rfl <;> rfl
  have s2 : l.length + 1 ≤ maxLen := by unfold maxLen; omega
  have s3 : (l.length + 1) * 32 ≤ 140737488355328 := by omega
  have s4 : g + 4 ≤ (w.drew.alloc (.cells #[.string (s.extract k en), .int .i64 k, .bool false] 132)).heap.size := by show g + 4 ≤ (w.alloc _).heap.size; simp; omega
  have s5 := Sl.three w.drew (.string (s.extract k en)) (.int .i64 k) (.bool false) 132
  have a1 : (w.alloc (.cells #[.string (s.extract k en), .int .i64 k, .bool false] 132)).cell? ⟨g + 1, 0, none⟩ = some vl := (World.cell?_alloc_lt w _ ⟨g + 1, 0, none⟩ (by show g + 1 < _; omega)).trans c1
  clear hown
  go_region_law (refine step_append_sl rfl (.tmp 7) (.tmp 14) 127 rfl (g + 4) 132 i0 _ 3 32 Tryz.underlying127 hi0 hz0 hz1 hz2 rfl (by omega) vl _ _ (by simp [Act.eval, Act.put]) s0 _ _ 1 1 _ (by simp [Act.eval, Act.put]) s5 s1 s2 s3 s4 ?_; intro v' w4 ho4 hg4 ha4; obtain ⟨A4, c4, rfl, _, _⟩ := own_shape ho4; have kb := CutSt.boxed HH.out.draw _ hg4; have k1 := kb.1.1; have k2 := kb.1.2)
  all_goals
    have hm := CutSt.more HH.out.draw ⟨(s.data.toList.drop k).take (en - k), k, false⟩ _ (by have := ho4; rw [extract_bs] at this; exact this) hg4
    have hm2 := hm.word_ (-1)
    have k3 := kb.2.1
    have k4 := kb.2.2
    have HM := Lib.hid hm2
    clear hm hm2 ho4 hg4 ha4 kb k1 k2 a1 s0 s1 s2 s3 s4 s5 c0 c1 c2 f1 f2
    go_wp2_with fail
    go_end0
    exact ⟨rfl, _, HM.out⟩
end Go.Proofs.YthonnpjlkcjoeaaGreatDoor.T
