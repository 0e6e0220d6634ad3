/- LabelTells returns true: the walk, over what its callees answer. -/
import Derived.Test.YthonnpjlkcjoeaaDoorLabelT
import Derived.Test.YthonnpjlkcjoeaaDoorLabelW
import Derived.Test.YthonnpjlkcjoeaaDoorWide
namespace Go.Proofs.YthonnpjlkcjoeaaDoor.La
open Go.RowKit Go.Proofs.YthonnpjlkcjoeaaDoor.B
set_option linter.unusedSimpArgs false
set_option linter.unusedVariables false

/-- At every world behind w the call returns v, and what lay there stays. -/
def Gives (w : World) (f : Nat) (args : Array Value) (v : Value) : Prop := ∀ W, Below w.heap.size w W → Calls Tryd.prog f args W fun e w' => e = .returned v ∧ Below W.heap.size W w'
theorem Gives.at {w : World} {f : Nat} {args : Array Value} {v : Value} (h : Gives w f args v) {W : World} (hb : Below w.heap.size w W) : Calls Tryd.prog f args W fun e w' => e = .returned v ∧ Below W.heap.size W w' := h W hb

set_option maxRecDepth 100000 in
set_option maxHeartbeats 4000000 in
theorem tells_core (l : List Site) (A : Option Addr) (c : Nat) (w : World) (mo ex nm tx rl : ByteArray) (li co ru n b tb E rule : Int) (i : Bool)
    (hwd : Calls Tryd.prog 7 #[.slice A l.length c] w fun e w' => WideS l w e w')
    (hin : Small l → ∀ W, Below w.heap.size w W → Calls Tryd.prog 9 #[.slice A l.length c] W fun e w' => WideSR l W e w')
    (hrest : Small l → ∀ g W, Below w.heap.size w W → W.rowIs g 31 ((l.length + 64) * 5) (fun j => (cells (whole l)).getD j default) →
      Gives W 12 #[.slice (some ⟨g, 0, none⟩) l.length (l.length + 64), .int .i64 b] (.tuple #[.agg #[.string mo, .string ex, .int .i64 li, .int .i64 co, .int .i64 ru], .int .i64 E]) ∧
      Gives W 13 #[.slice A l.length c, .int .i64 b] (.tuple #[.agg #[.string mo, .string ex, .int .i64 li, .int .i64 co, .int .i64 ru], .int .i64 E]) ∧
      Gives W 14 #[.slice (some ⟨g, 0, none⟩) l.length (l.length + 64), .int .i64 b] (.tuple #[.string nm, .int .i64 E]) ∧
      Gives W 15 #[.slice A l.length c, .int .i64 b] (.tuple #[.string nm, .int .i64 E]) ∧
      Gives W 16 #[.slice (some ⟨g, 0, none⟩) l.length (l.length + 64), .int .i64 b] (.tuple #[.string tx, .int .i64 E]) ∧
      Gives W 17 #[.slice A l.length c, .int .i64 b] (.tuple #[.string tx, .int .i64 E]) ∧
      Gives W 22 #[.slice (some ⟨g, 0, none⟩) l.length (l.length + 64), .slice A l.length c] (.bool true) ∧
      Gives W 23 #[.slice (some ⟨g, 0, none⟩) l.length (l.length + 64)] (.bool true))
    (hS : Gives w 10 #[.int .i64 b] (.tuple #[.int .i64 n, .bool i]))
    (hSR : Gives w 11 #[.int .i64 b] (.tuple #[.int .i64 n, .bool i]))
    (hT : Gives w 18 #[.int .i64 b] (.int .i64 tb))
    (hTR : Gives w 19 #[.int .i64 b] (.int .i64 tb))
    (hR : Gives w 20 #[.int .i64 rule] (.string rl))
    (hRR : Gives w 21 #[.int .i64 rule] (.string rl))
    (hL : Gives w 8 #[] (.bool true)) :
    Calls Tryd.prog 3 #[.slice A l.length c, .int .i64 b, .int .i64 rule] w fun e w' => e = .returned (.bool true) ∧ Below w.heap.size w w' := by
  have HIN := Lib.hid hin
  have HREST := Lib.hid hrest
  clear hin hrest
  go_enter Tryd.func3, Tryd.ntmps3
  go_wp2_with fail
  refine hwd.mono ?_
  rintro e w1 ⟨bw, rfl, hsm, hb⟩
  clear hwd
  rcases bw with _ | _
  rotate_left
  · go_wp2_with fail
    refine (hL.at hb).mono ?_
    rintro e w19 ⟨rfl, hb3⟩
    go_wp2_with fail
    go_ret
    exact ⟨rfl, bl hb hb3⟩
  have hsmall := hsm rfl
  clear hsm
  go_wp2_with fail
  refine (HIN.out hsmall _ hb).mono ?_
  rintro e w2 ⟨rfl, hrow, hb2⟩
  obtain ⟨g, hg⟩ : ∃ g, w1.heap.size = g := ⟨_, rfl⟩
  rw [hg] at hrow ⊢
  have hb := bl hb hb2
  obtain ⟨hO, hOR, hN, hNR, hX, hXR, hQ, hP⟩ := HREST.out hsmall g w2 hb hrow
  clear HIN HREST hrow hb2 hg hsmall
  have hz := Below.refl w2.heap.size w2
  go_wp2_with fail
  refine (hS.at hb).mono ?_
  rintro e w3 ⟨rfl, hb3⟩
  replace hb := bl hb hb3
  replace hz := bl hz hb3
  clear hb3
  go_wp2_with fail
  refine (hSR.at hb).mono ?_
  rintro e w4 ⟨rfl, hb3⟩
  replace hb := bl hb hb3
  replace hz := bl hz hb3
  clear hb3
  go_wp2_with fail
  refine (hO.at hz).mono ?_
  rintro e w5 ⟨rfl, hb3⟩
  replace hb := bl hb hb3
  replace hz := bl hz hb3
  clear hb3 hO
  obtain ⟨g1, hg1⟩ : ∃ g, w5.heap.size = g := ⟨_, rfl⟩
  have hx := Box.new w5 mo ex li co ru
  replace hb := bal hb (.cells #[.string mo, .string ex, .int .i64 li, .int .i64 co, .int .i64 ru] 31)
  replace hz := bal hz (.cells #[.string mo, .string ex, .int .i64 li, .int .i64 co, .int .i64 ru] 31)
  rw [hg1] at hx
  obtain ⟨w6, hw6⟩ : ∃ W, w5.alloc (.cells #[.string mo, .string ex, .int .i64 li, .int .i64 co, .int .i64 ru] 31) = W := ⟨_, rfl⟩
  rw [hw6] at hx hb hz
  go_wp2_with fail
  clear hw6 hg1
  refine (hOR.at hz).mono ?_
  rintro e w7 ⟨rfl, hb3⟩
  replace hb := bl hb hb3
  replace hz := bl hz hb3
  replace hx := hx.keep hb3
  clear hb3 hOR
  obtain ⟨g2, hg2⟩ : ∃ g, w7.heap.size = g := ⟨_, rfl⟩
  have hy := Box.new w7 mo ex li co ru
  replace hx := hx.keep (bal b0 (.cells #[.string mo, .string ex, .int .i64 li, .int .i64 co, .int .i64 ru] 31))
  replace hb := bal hb (.cells #[.string mo, .string ex, .int .i64 li, .int .i64 co, .int .i64 ru] 31)
  replace hz := bal hz (.cells #[.string mo, .string ex, .int .i64 li, .int .i64 co, .int .i64 ru] 31)
  rw [hg2] at hy
  obtain ⟨w8, hw8⟩ : ∃ W, w7.alloc (.cells #[.string mo, .string ex, .int .i64 li, .int .i64 co, .int .i64 ru] 31) = W := ⟨_, rfl⟩
  rw [hw8] at hx hy hb hz
  go_wp2_with fail
  clear hw8 hg2
  refine (hN.at hz).mono ?_
  rintro e w9 ⟨rfl, hb3⟩
  replace hb := bl hb hb3
  replace hz := bl hz hb3
  replace hx := hx.keep hb3
  replace hy := hy.keep hb3
  clear hb3 hN
  go_wp2_with fail
  refine (hNR.at hz).mono ?_
  rintro e w10 ⟨rfl, hb3⟩
  replace hb := bl hb hb3
  replace hz := bl hz hb3
  replace hx := hx.keep hb3
  replace hy := hy.keep hb3
  clear hb3 hNR
  go_wp2_with fail
  refine (hX.at hz).mono ?_
  rintro e w11 ⟨rfl, hb3⟩
  replace hb := bl hb hb3
  replace hz := bl hz hb3
  replace hx := hx.keep hb3
  replace hy := hy.keep hb3
  clear hb3 hX
  go_wp2_with fail
  refine (hXR.at hz).mono ?_
  rintro e w12 ⟨rfl, hb3⟩
  replace hb := bl hb hb3
  replace hz := bl hz hb3
  replace hx := hx.keep hb3
  replace hy := hy.keep hb3
  clear hb3 hXR
  obtain ⟨c0, c1, c2, c3, c4⟩ := id hx
  obtain ⟨d0, d1, d2, d3, d4⟩ := id hy
  go_wp2_with fail
  refine (hT.at hb).mono ?_
  rintro e w13 ⟨rfl, hb3⟩
  replace hb := bl hb hb3
  replace hz := bl hz hb3
  clear hb3 hT c0 c1 c2 c3 c4 d0 d1 d2 d3 d4 hx hy
  go_wp2_with fail
  refine (hTR.at hb).mono ?_
  rintro e w14 ⟨rfl, hb3⟩
  replace hb := bl hb hb3
  replace hz := bl hz hb3
  clear hb3 hTR
  go_wp2_with fail
  refine (hR.at hb).mono ?_
  rintro e w15 ⟨rfl, hb3⟩
  replace hb := bl hb hb3
  replace hz := bl hz hb3
  clear hb3 hR
  go_wp2_with fail
  refine (hRR.at hb).mono ?_
  rintro e w16 ⟨rfl, hb3⟩
  replace hb := bl hb hb3
  replace hz := bl hz hb3
  clear hb3 hRR
  go_wp2_with fail
  refine (hQ.at hz).mono ?_
  rintro e w17 ⟨rfl, hb3⟩
  replace hb := bl hb hb3
  replace hz := bl hz hb3
  clear hb3 hQ
  go_wp2_with fail
  refine (hP.at hz).mono ?_
  rintro e w18 ⟨rfl, hb3⟩
  replace hb := bl hb hb3
  clear hb3 hP
  go_wp2_with fail
  refine (hL.at hb).mono ?_
  rintro e w19 ⟨rfl, hb3⟩
  replace hb := bl hb hb3
  go_wp2_with fail
  go_ret
  exact ⟨rfl, hb⟩
end Go.Proofs.YthonnpjlkcjoeaaDoor.La
