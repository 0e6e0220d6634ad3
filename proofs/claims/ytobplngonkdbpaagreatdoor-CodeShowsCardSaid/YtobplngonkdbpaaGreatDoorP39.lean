/- CodeShows, proved: whatever the input the law returns true and leaves its arguments as they read; with its tied card. No condition of its own: the form's own reach, and what the row lists of the library's tables. -/
import Derived.ProofKit
import Derived.Deep.Slices
import Derived.SizedLaws
import Derived.OpenShut
import Derived.Lib.LaidTab
import Derived.LaidSub
import Derived.WalkKit
import Derived.ShutString
import Derived.ChangeOld
import Derived.Deep.DeepHandedRow
import Derived.LaidHandle
import Derived.Test.YtobplngonkdbpaaGreatDoorP03
import Derived.Test.YtobplngonkdbpaaGreatDoorProg
import Derived.Test.YtobplngonkdbpaaGreatDoorP38
import Derived.Test.YtobplngonkdbpaaGreatDoorP05
import Derived.Test.YtobplngonkdbpaaGreatDoorCards
import Derived.Test.YtobplngonkdbpaaGreatDoorTie
set_option linter.unusedVariables false
set_option linter.unusedSimpArgs false
/- RowsIn -/
namespace Go.Proofs.YtobplngonkdbpaaGreatDoor.D
open Go.RowKit Go.Proofs.YtobplngonkdbpaaGreatDoor.B Go.ChangeShapes Go.WideShapes Go.Deep
set_option linter.unusedVariables false
theorem wts_mem {H : Type} {P : Program} {e : TypeId} {d : DataW H} {n : Nat} : ∀ {ds : List (DataW H)}, d ∈ ds -> n ∈ d.weights P e -> n ∈ DataW.weightsAll P e ds
 | [], h, _ => by simp at h
 | x :: r, h, hn => by
  simp only [DataW.weightsAll, List.mem_append]
  rcases List.mem_cons.1 h with rfl | h
  · exact .inl hn
  · exact .inr (wts_mem h hn)
theorem flat_at2 {α : Type} (f : α -> List Value) (sz : Nat) (hf : ∀ a, (f a).length = sz) : ∀ (l : List α) (k j : Nat) (a : α), l[k]? = some a -> j < sz -> (l.flatMap f)[k * sz + j]? = (f a)[j]?
 | [], k, j, a, h, _ => by simp at h
 | x :: l, 0, j, a, h, hj => by
  rw [List.getElem?_cons_zero] at h
  injection h with h
  subst h
  rw [List.flatMap_cons, Nat.zero_mul, Nat.zero_add, List.getElem?_append_left (by rw [hf]; exact hj)]
 | x :: l, k + 1, j, a, h, hj => by
  rw [List.getElem?_cons_succ] at h
  rw [List.flatMap_cons, List.getElem?_append_right (by rw [hf, Nat.succ_mul]; omega), hf, show (k + 1) * sz + j - sz = k * sz + j by rw [Nat.succ_mul]; omega]
  exact flat_at2 f sz hf l k j a h hj
theorem flat_len {α : Type} (cells : α -> List Value) {sz : Nat} (hcl : ∀ a, (cells a).length = sz) : ∀ l : List α, (l.flatMap cells).length = l.length * sz
 | [] => by simp
 | a :: l => by rw [List.flatMap_cons, List.length_append, hcl, flat_len cells hcl l, List.length_cons, Nat.succ_mul, Nat.add_comm]
/-- A slice of rows that came in. -/
theorem open_rows {H : Type} {enc : TypeId × Value -> H} {W : World} {α : Type} [Inhabited α] {P : Program} {st et : TypeId} {sz bs : Nat} (hu : P.underlying st = some (.slice et)) (hc : P.cellsOf et = sz) (hb : P.bytesOf et = bs) (hbs : 0 < bs) (hs0 : 0 < sz)
  (cells : α -> List Value) (hcl : ∀ a, (cells a).length = sz) (Q : α -> Prop)
  (one : ∀ {fuel : Nat} {cs : List Value} {x : DataW H × List MemPlace}, DataW.trod enc P W 0 (fun _ => true) true fuel et cs = some x -> (∀ n ∈ x.1.weights P et, n <= reachBytes) -> ∃ a, cs = cells a /\ Q a)
  {fuel : Nat} {v : Value} {x : DataW H × List MemPlace} (h : DataW.trod enc P W 0 (fun _ => true) true fuel st [v] = some x) (hsz : ∀ n ∈ x.1.weights P st, n <= reachBytes) :
  ∃ l : List α, Rs W sz v l.length (l.flatMap cells) /\ (∀ a ∈ l, Q a) /\ l.length <= reachBytes := by
 rcases open_slice hu h with ⟨hcs, hx⟩ | ⟨a, len, cap, m, n, D, Pl, hcs, _, hl, hm, hmm, hx, hi⟩
 ·
  simp only [List.cons.injEq, and_true] at hcs
  subst hcs
  exact ⟨[], ⟨none, 0, rfl, Nat.le_refl _, by unfold maxLen; omega, Sl.nil _ _ _ _⟩, by simp, by simp⟩
 ·
  simp only [List.cons.injEq, and_true] at hcs
  subst hcs
  have hle : len <= m := by rw [hmm]; simpa using hl
  have hx1 : x.1 = .slice ((List.range len).map D) ((List.range (m - len)).map fun j => D (len + j)) := by rw [hx]
  rw [hx1] at hsz
  simp only [DataW.weights, hu, List.mem_cons, List.mem_append, hb, List.length_map, List.length_range] at hsz
  have hlen := hsz _ (.inl rfl)
  have hlen2 : len <= reachBytes := Nat.le_trans (Nat.le_mul_of_pos_right len hbs) (Nat.le_trans (Nat.mul_le_mul_right bs hle) (by first | exact hlen | (have := hlen; simpa [Nat.add_sub_cancel' hle] using this)))
  have key : ∀ i, i < len -> ∃ s : α, Q s /\ ∀ j, j < sz -> W.cell? (a.add (i * sz + j)) = (cells s)[j]? := by
   intro i hil
   obtain ⟨cs', hc', ht⟩ := hi i (by omega)
   rw [hc] at hc'
   obtain ⟨_, hcl', hat⟩ := World.cells?_some hc'
   have hd : D i ∈ (List.range len).map D := List.mem_map.2 ⟨i, List.mem_range.2 hil, rfl⟩
   obtain ⟨s, rfl, hq⟩ := one ht (fun n hn => hsz _ (.inr (.inl (wts_mem hd hn))))
   refine ⟨s, hq, fun j hj => ?_⟩
   rw [<- Go.Deep.add_add, hat j hj]
  obtain ⟨f, hf⟩ := choose_lt key
  refine ⟨(List.range len).map f, ?_, ?_, by simpa using hlen2⟩
  ·
   refine ⟨some a, cap, by simp, by simpa using hl, hm, by rw [flat_len cells hcl], ?_⟩
   rcases Nat.eq_zero_or_pos len with h0 | h0
   · exact .inl (by simpa using h0)
   ·
    right
    obtain ⟨b, o, spot⟩ := a
    have hc0 := (hf 0 h0).2 0 hs0
    obtain ⟨v0, hv0⟩ : ∃ v0, (cells (f 0))[0]? = some v0 := ⟨_, List.getElem?_eq_getElem (by rw [hcl]; exact hs0)⟩
    rw [hv0] at hc0
    have hspot : spot = none := by simpa [Addr.add] using World.cell?_spot hc0
    subst hspot
    refine ⟨b, o, rfl, by have := World.block_lt_of_cell? W _ hc0; simpa [Addr.add] using this, fun j u hj => ?_⟩
    have hjl : j < len * sz := by
     have := (List.getElem?_eq_some_iff.1 hj).1
     rw [flat_len cells hcl] at this; simpa using this
    have hk : j / sz < len := Nat.div_lt_of_lt_mul (by rw [Nat.mul_comm]; exact hjl)
    have hr : j % sz < sz := Nat.mod_lt _ hs0
    have he : j / sz * sz + j % sz = j := by rw [Nat.mul_comm]; exact Nat.div_add_mod j sz
    have h1 := (hf (j / sz) hk).2 (j % sz) hr
    rw [add_flat, he] at h1
    rw [h1, <- flat_at2 cells sz hcl ((List.range len).map f) (j / sz) (j % sz) (f (j / sz)) (by rw [List.getElem?_map, List.getElem?_range hk]; rfl) hr, he, hj]
  ·
   intro s hs
   obtain ⟨i, hi, rfl⟩ := List.mem_map.1 hs
   exact (hf i (List.mem_range.1 hi)).1
end Go.Proofs.YtobplngonkdbpaaGreatDoor.D
/- CodeIn -/
namespace Go.Proofs.YtobplngonkdbpaaGreatDoor.D
open Go.RowKit Go.Proofs.YtobplngonkdbpaaGreatDoor.B Go.ChangeShapes Go.WideShapes Go.Deep
set_option linter.unusedVariables false
theorem flat_one {α : Type} (f : α -> Value) : ∀ l : List α, (l.flatMap fun a => [f a]) = l.map f
 | [] => rfl
 | a :: l => by rw [List.flatMap_cons, flat_one f l]; rfl
section
variable {H : Type} {enc : TypeId × Value -> H} {W : World}
theorem one_str {fuel : Nat} {cs : List Value} {x : DataW H × List MemPlace} (h : DataW.trod enc Tryz.prog W 0 (fun _ => true) true fuel 9 cs = some x) (hsz : ∀ n ∈ x.1.weights Tryz.prog 9, n <= reachBytes) :
  ∃ s : Bs, cs = [strV s] /\ s.length <= reachBytes := by
 obtain ⟨s, rfl, x0, m0⟩ := DataW.trod_string Tryz.underlying9 h
 refine ⟨s.data.toList, by simp [strV], ?_⟩
 have := hsz s.size (by rw [congrArg Prod.fst x0]; simp [DataW.weights])
 exact this
theorem one_num {fuel : Nat} {cs : List Value} {x : DataW H × List MemPlace} (h : DataW.trod enc Tryz.prog W 0 (fun _ => true) true fuel 2 cs = some x) :
  ∃ s : Int, cs = [.int .i64 s] /\ inR s := by
 obtain ⟨v, rfl, x0, w0⟩ := DataW.trod_int Tryz.underlying2 h
 exact ⟨v, rfl, (bounds_i64 w0).1, (bounds_i64 w0).2⟩
theorem rows_str {fuel : Nat} {v : Value} {x : DataW H × List MemPlace} (h : DataW.trod enc Tryz.prog W 0 (fun _ => true) true fuel 25 [v] = some x) (hsz : ∀ n ∈ x.1.weights Tryz.prog 25, n <= reachBytes) :
  ∃ l : List Bs, Rs W 1 v l.length (envC l) /\ (∀ s ∈ l, s.length <= reachBytes) /\ l.length <= reachBytes := by
 obtain ⟨l, h1, h2, h3⟩ := open_rows (α := Bs) (sz := 1) (bs := 16) Tryz.underlying25 (by kernel_rfl) (by kernel_rfl) (by decide) (by decide) (fun s => [strV s]) (fun _ => rfl) (fun s => s.length <= reachBytes) one_str h hsz
 rw [flat_one] at h1
 exact ⟨l, h1, h2, h3⟩
theorem rows_num {fuel : Nat} {v : Value} {x : DataW H × List MemPlace} (h : DataW.trod enc Tryz.prog W 0 (fun _ => true) true fuel 24 [v] = some x) (hsz : ∀ n ∈ x.1.weights Tryz.prog 24, n <= reachBytes) :
  ∃ l : List Int, Rs W 1 v l.length (numC l) /\ (∀ s ∈ l, inR s) /\ l.length <= reachBytes := by
 obtain ⟨l, h1, h2, h3⟩ := open_rows (α := Int) (sz := 1) (bs := 8) Tryz.underlying24 (by kernel_rfl) (by kernel_rfl) (by decide) (by decide) (fun s => [Value.int .i64 s]) (fun _ => rfl) inR (fun h _ => one_num h) h hsz
 rw [flat_one] at h1
 exact ⟨l, h1, h2, h3⟩
set_option maxRecDepth 100000 in
theorem one_in {fuel : Nat} {cs : List Value} {x : DataW H × List MemPlace} (h : DataW.trod enc Tryz.prog W 0 (fun _ => true) true fuel 92 cs = some x) (hsz : ∀ n ∈ x.1.weights Tryz.prog 92, n <= reachBytes) :
  ∃ s : In, cs = inC s /\ s.ok := by
 obtain ⟨ys, n, _, hx, hlen, hyl, hf⟩ := DataW.trod_struct Tryz.underlying92 h
 have hl : cs.length = 3 := hlen.trans (by kernel_rfl)
 have c_int8 : Tryz.prog.cellsOf 28 = 1 := by kernel_rfl
 have c_int : Tryz.prog.cellsOf 3 = 1 := by kernel_rfl
 match cs, hl, ys, hyl with
 | [a0, a1, a2], _, [y0, y1, y2], _ =>
  have h0 : DataW.trod enc Tryz.prog W 0 (fun _ => true) true n 28 ((([a0, a1, a2] : List Value).drop 0).take (Tryz.prog.cellsOf 28)) = some y0 := hf 0 _ rfl
  rw [c_int8] at h0
  have h1 : DataW.trod enc Tryz.prog W 0 (fun _ => true) true n 3 ((([a0, a1, a2] : List Value).drop 1).take (Tryz.prog.cellsOf 3)) = some y1 := hf 1 _ rfl
  rw [c_int] at h1
  have h2 : DataW.trod enc Tryz.prog W 0 (fun _ => true) true n 3 ((([a0, a1, a2] : List Value).drop 2).take (Tryz.prog.cellsOf 3)) = some y2 := hf 2 _ rfl
  rw [c_int] at h2
  have hw : ∀ (j : Nat) (t : TypeId) (d : DataW H) (m : Nat), ([28, 3, 3] : List Nat)[j]? = some t -> ([y0.1, y1.1, y2.1] : List (DataW H))[j]? = some d -> m ∈ d.weights Tryz.prog t -> m <= reachBytes := by
   intro j t d m hj hd hm
   refine hsz m ?_
   rw [hx]
   unfold DataW.weights
   rw [Tryz.underlying92]
   exact DataW.weights_mem_each (j := j) (t := t) (d := d) hj hd _ hm
  simp only [List.drop_zero, List.drop_succ_cons, List.take_succ_cons, List.take_zero] at h0 h1 h2
  obtain ⟨v0, e0, x0, w0⟩ := DataW.trod_int Tryz.underlying28 h0
  have b0 := bounds_i8 w0
  obtain ⟨v1, e1, x1, w1⟩ := DataW.trod_int Tryz.underlying3 h1
  have b1 := bounds_i64 w1
  obtain ⟨v2, e2, x2, w2⟩ := DataW.trod_int Tryz.underlying3 h2
  have b2 := bounds_i64 w2
  simp only [List.cons.injEq, and_true] at e0 e1 e2
  subst e0 e1 e2
  exact ⟨⟨v0, v1, v2⟩, rfl, b0.1, b0.2, ⟨b1.1, b1.2⟩, ⟨b2.1, b2.2⟩⟩
theorem rows_in {fuel : Nat} {v : Value} {x : DataW H × List MemPlace} (h : DataW.trod enc Tryz.prog W 0 (fun _ => true) true fuel 88 [v] = some x) (hsz : ∀ n ∈ x.1.weights Tryz.prog 88, n <= reachBytes) :
  ∃ l : List In, Rs W 3 v l.length (codC l) /\ (∀ s ∈ l, In.ok s) /\ l.length <= reachBytes :=
 have : Inhabited In := ⟨⟨0, 0, 0⟩⟩
 open_rows (α := In) (sz := 3) (bs := 24) Tryz.underlying88 (by kernel_rfl) (by kernel_rfl) (by decide) (by decide) inC (fun _ => rfl) (In.ok) one_in h hsz
set_option maxRecDepth 100000 in
theorem one_nd {fuel : Nat} {cs : List Value} {x : DataW H × List MemPlace} (h : DataW.trod enc Tryz.prog W 0 (fun _ => true) true fuel 86 cs = some x) (hsz : ∀ n ∈ x.1.weights Tryz.prog 86, n <= reachBytes) :
  ∃ s : Nd, cs = ndC s /\ s.ok := by
 obtain ⟨ys, n, _, hx, hlen, hyl, hf⟩ := DataW.trod_struct Tryz.underlying86 h
 have hl : cs.length = 7 := hlen.trans (by kernel_rfl)
 have c_int8 : Tryz.prog.cellsOf 28 = 1 := by kernel_rfl
 have c_int64 : Tryz.prog.cellsOf 2 = 1 := by kernel_rfl
 have c_bool : Tryz.prog.cellsOf 4 = 1 := by kernel_rfl
 have c_uint8 : Tryz.prog.cellsOf 5 = 1 := by kernel_rfl
 match cs, hl, ys, hyl with
 | [a0, a1, a2, a3, a4, a5, a6], _, [y0, y1, y2, y3, y4, y5, y6], _ =>
  have h0 : DataW.trod enc Tryz.prog W 0 (fun _ => true) true n 28 ((([a0, a1, a2, a3, a4, a5, a6] : List Value).drop 0).take (Tryz.prog.cellsOf 28)) = some y0 := hf 0 _ rfl
  rw [c_int8] at h0
  have h1 : DataW.trod enc Tryz.prog W 0 (fun _ => true) true n 2 ((([a0, a1, a2, a3, a4, a5, a6] : List Value).drop 1).take (Tryz.prog.cellsOf 2)) = some y1 := hf 1 _ rfl
  rw [c_int64] at h1
  have h2 : DataW.trod enc Tryz.prog W 0 (fun _ => true) true n 4 ((([a0, a1, a2, a3, a4, a5, a6] : List Value).drop 2).take (Tryz.prog.cellsOf 4)) = some y2 := hf 2 _ rfl
  rw [c_bool] at h2
  have h3 : DataW.trod enc Tryz.prog W 0 (fun _ => true) true n 5 ((([a0, a1, a2, a3, a4, a5, a6] : List Value).drop 3).take (Tryz.prog.cellsOf 5)) = some y3 := hf 3 _ rfl
  rw [c_uint8] at h3
  have h4 : DataW.trod enc Tryz.prog W 0 (fun _ => true) true n 2 ((([a0, a1, a2, a3, a4, a5, a6] : List Value).drop 4).take (Tryz.prog.cellsOf 2)) = some y4 := hf 4 _ rfl
  rw [c_int64] at h4
  have h5 : DataW.trod enc Tryz.prog W 0 (fun _ => true) true n 5 ((([a0, a1, a2, a3, a4, a5, a6] : List Value).drop 5).take (Tryz.prog.cellsOf 5)) = some y5 := hf 5 _ rfl
  rw [c_uint8] at h5
  have h6 : DataW.trod enc Tryz.prog W 0 (fun _ => true) true n 5 ((([a0, a1, a2, a3, a4, a5, a6] : List Value).drop 6).take (Tryz.prog.cellsOf 5)) = some y6 := hf 6 _ rfl
  rw [c_uint8] at h6
  have hw : ∀ (j : Nat) (t : TypeId) (d : DataW H) (m : Nat), ([28, 2, 4, 5, 2, 5, 5] : List Nat)[j]? = some t -> ([y0.1, y1.1, y2.1, y3.1, y4.1, y5.1, y6.1] : List (DataW H))[j]? = some d -> m ∈ d.weights Tryz.prog t -> m <= reachBytes := by
   intro j t d m hj hd hm
   refine hsz m ?_
   rw [hx]
   unfold DataW.weights
   rw [Tryz.underlying86]
   exact DataW.weights_mem_each (j := j) (t := t) (d := d) hj hd _ hm
  simp only [List.drop_zero, List.drop_succ_cons, List.take_succ_cons, List.take_zero] at h0 h1 h2 h3 h4 h5 h6
  obtain ⟨v0, e0, x0, w0⟩ := DataW.trod_int Tryz.underlying28 h0
  have b0 := bounds_i8 w0
  obtain ⟨v1, e1, x1, w1⟩ := DataW.trod_int Tryz.underlying2 h1
  have b1 := bounds_i64 w1
  obtain ⟨v2, e2, x2⟩ := DataW.trod_bool Tryz.underlying4 h2
  obtain ⟨v3, e3, x3, w3⟩ := DataW.trod_int Tryz.underlying5 h3
  have b3 := bounds_u8 w3
  obtain ⟨v4, e4, x4, w4⟩ := DataW.trod_int Tryz.underlying2 h4
  have b4 := bounds_i64 w4
  obtain ⟨v5, e5, x5, w5⟩ := DataW.trod_int Tryz.underlying5 h5
  have b5 := bounds_u8 w5
  obtain ⟨v6, e6, x6, w6⟩ := DataW.trod_int Tryz.underlying5 h6
  have b6 := bounds_u8 w6
  simp only [List.cons.injEq, and_true] at e0 e1 e2 e3 e4 e5 e6
  subst e0 e1 e2 e3 e4 e5 e6
  exact ⟨⟨v0, v1, v2, v3, v4, v5, v6⟩, rfl, b0.1, b0.2, ⟨b1.1, b1.2⟩, b3.1, b3.2, ⟨b4.1, b4.2⟩, b5.1, b5.2, b6.1, b6.2⟩
theorem rows_nd {fuel : Nat} {v : Value} {x : DataW H × List MemPlace} (h : DataW.trod enc Tryz.prog W 0 (fun _ => true) true fuel 82 [v] = some x) (hsz : ∀ n ∈ x.1.weights Tryz.prog 82, n <= reachBytes) :
  ∃ l : List Nd, Rs W 7 v l.length (cosC l) /\ (∀ s ∈ l, Nd.ok s) /\ l.length <= reachBytes :=
 have : Inhabited Nd := ⟨⟨0, 0, false, 0, 0, 0, 0⟩⟩
 open_rows (α := Nd) (sz := 7) (bs := 40) Tryz.underlying82 (by kernel_rfl) (by kernel_rfl) (by decide) (by decide) ndC (fun _ => rfl) (Nd.ok) one_nd h hsz
/-- A function, a cast that came in. -/
def FnIn (W : World) (g : FuL) : Prop := Rs W 1 g.ev g.f.env.length (envC g.f.env) /\ Rs W 3 g.cv g.f.code.length (codC g.f.code) /\ (∀ i ∈ g.f.code, i.ok) /\ g.f.env.length <= reachBytes /\ g.f.code.length <= reachBytes /\ g.f.param.length <= reachBytes /\ g.f.res.length <= reachBytes /\ ∀ x ∈ g.f.env, x.length <= reachBytes
def WtIn (W : World) (g : WtL) : Prop := Rs W 7 g.cv g.w.co.length (cosC g.w.co) /\ (∀ i ∈ g.w.co, i.ok) /\ g.w.co.length <= reachBytes /\ g.w.f.length <= reachBytes /\ g.w.t.length <= reachBytes
set_option maxRecDepth 100000 in
theorem one_fn {fuel : Nat} {cs : List Value} {x : DataW H × List MemPlace} (h : DataW.trod enc Tryz.prog W 0 (fun _ => true) true fuel 90 cs = some x) (hsz : ∀ n ∈ x.1.weights Tryz.prog 90, n <= reachBytes) :
  ∃ g : FuL, cs = g.cells /\ FnIn W g := by
 obtain ⟨ys, n, _, hx, hlen, hyl, hf⟩ := DataW.trod_struct Tryz.underlying90 h
 have hl : cs.length = 4 := hlen.trans (by kernel_rfl)
 have c___string : Tryz.prog.cellsOf 25 = 1 := by kernel_rfl
 have c_string : Tryz.prog.cellsOf 9 = 1 := by kernel_rfl
 have c___api_Ins : Tryz.prog.cellsOf 88 = 1 := by kernel_rfl
 match cs, hl, ys, hyl with
 | [a0, a1, a2, a3], _, [y0, y1, y2, y3], _ =>
  have h0 : DataW.trod enc Tryz.prog W 0 (fun _ => true) true n 25 ((([a0, a1, a2, a3] : List Value).drop 0).take (Tryz.prog.cellsOf 25)) = some y0 := hf 0 _ rfl
  rw [c___string] at h0
  have h1 : DataW.trod enc Tryz.prog W 0 (fun _ => true) true n 9 ((([a0, a1, a2, a3] : List Value).drop 1).take (Tryz.prog.cellsOf 9)) = some y1 := hf 1 _ rfl
  rw [c_string] at h1
  have h2 : DataW.trod enc Tryz.prog W 0 (fun _ => true) true n 9 ((([a0, a1, a2, a3] : List Value).drop 2).take (Tryz.prog.cellsOf 9)) = some y2 := hf 2 _ rfl
  rw [c_string] at h2
  have h3 : DataW.trod enc Tryz.prog W 0 (fun _ => true) true n 88 ((([a0, a1, a2, a3] : List Value).drop 3).take (Tryz.prog.cellsOf 88)) = some y3 := hf 3 _ rfl
  rw [c___api_Ins] at h3
  have hw : ∀ (j : Nat) (t : TypeId) (d : DataW H) (m : Nat), ([25, 9, 9, 88] : List Nat)[j]? = some t -> ([y0.1, y1.1, y2.1, y3.1] : List (DataW H))[j]? = some d -> m ∈ d.weights Tryz.prog t -> m <= reachBytes := by
   intro j t d m hj hd hm
   refine hsz m ?_
   rw [hx]
   unfold DataW.weights
   rw [Tryz.underlying90]
   exact DataW.weights_mem_each (j := j) (t := t) (d := d) hj hd _ hm
  simp only [List.drop_zero, List.drop_succ_cons, List.take_succ_cons, List.take_zero] at h0 h1 h2 h3
  obtain ⟨v0, r0, q0, l0⟩ := rows_str h0 (fun m hm => hw 0 _ _ m rfl rfl hm)
  obtain ⟨v1, e1, s1⟩ := one_str h1 (fun m hm => hw 1 _ _ m rfl rfl hm)
  obtain ⟨v2, e2, s2⟩ := one_str h2 (fun m hm => hw 2 _ _ m rfl rfl hm)
  obtain ⟨v3, r3, q3, l3⟩ := rows_in h3 (fun m hm => hw 3 _ _ m rfl rfl hm)
  simp only [List.cons.injEq, and_true] at e1 e2
  subst e1 e2
  exact ⟨⟨a0, ⟨v0, v1, v2, v3⟩, a3⟩, rfl, r0, r3, q3, l0, l3, s1, s2, q0⟩
theorem rows_fn {fuel : Nat} {v : Value} {x : DataW H × List MemPlace} (h : DataW.trod enc Tryz.prog W 0 (fun _ => true) true fuel 22 [v] = some x) (hsz : ∀ n ∈ x.1.weights Tryz.prog 22, n <= reachBytes) :
  ∃ l : List FuL, Rs W 4 v l.length (l.flatMap FuL.cells) /\ (∀ s ∈ l, FnIn W s) /\ l.length <= reachBytes :=
 have : Inhabited FuL := ⟨⟨.nilIface, ⟨[], [], [], []⟩, .nilIface⟩⟩
 open_rows (α := FuL) (sz := 4) (bs := 80) Tryz.underlying22 (by kernel_rfl) (by kernel_rfl) (by decide) (by decide) FuL.cells (fun _ => rfl) (FnIn W) one_fn h hsz
set_option maxRecDepth 100000 in
theorem one_wt {fuel : Nat} {cs : List Value} {x : DataW H × List MemPlace} (h : DataW.trod enc Tryz.prog W 0 (fun _ => true) true fuel 84 cs = some x) (hsz : ∀ n ∈ x.1.weights Tryz.prog 84, n <= reachBytes) :
  ∃ g : WtL, cs = g.cells /\ WtIn W g := by
 obtain ⟨ys, n, _, hx, hlen, hyl, hf⟩ := DataW.trod_struct Tryz.underlying84 h
 have hl : cs.length = 3 := hlen.trans (by kernel_rfl)
 have c_string : Tryz.prog.cellsOf 9 = 1 := by kernel_rfl
 have c___api_Co : Tryz.prog.cellsOf 82 = 1 := by kernel_rfl
 match cs, hl, ys, hyl with
 | [a0, a1, a2], _, [y0, y1, y2], _ =>
  have h0 : DataW.trod enc Tryz.prog W 0 (fun _ => true) true n 9 ((([a0, a1, a2] : List Value).drop 0).take (Tryz.prog.cellsOf 9)) = some y0 := hf 0 _ rfl
  rw [c_string] at h0
  have h1 : DataW.trod enc Tryz.prog W 0 (fun _ => true) true n 9 ((([a0, a1, a2] : List Value).drop 1).take (Tryz.prog.cellsOf 9)) = some y1 := hf 1 _ rfl
  rw [c_string] at h1
  have h2 : DataW.trod enc Tryz.prog W 0 (fun _ => true) true n 82 ((([a0, a1, a2] : List Value).drop 2).take (Tryz.prog.cellsOf 82)) = some y2 := hf 2 _ rfl
  rw [c___api_Co] at h2
  have hw : ∀ (j : Nat) (t : TypeId) (d : DataW H) (m : Nat), ([9, 9, 82] : List Nat)[j]? = some t -> ([y0.1, y1.1, y2.1] : List (DataW H))[j]? = some d -> m ∈ d.weights Tryz.prog t -> m <= reachBytes := by
   intro j t d m hj hd hm
   refine hsz m ?_
   rw [hx]
   unfold DataW.weights
   rw [Tryz.underlying84]
   exact DataW.weights_mem_each (j := j) (t := t) (d := d) hj hd _ hm
  simp only [List.drop_zero, List.drop_succ_cons, List.take_succ_cons, List.take_zero] at h0 h1 h2
  obtain ⟨v0, e0, s0⟩ := one_str h0 (fun m hm => hw 0 _ _ m rfl rfl hm)
  obtain ⟨v1, e1, s1⟩ := one_str h1 (fun m hm => hw 1 _ _ m rfl rfl hm)
  obtain ⟨v2, r2, q2, l2⟩ := rows_nd h2 (fun m hm => hw 2 _ _ m rfl rfl hm)
  simp only [List.cons.injEq, and_true] at e0 e1
  subst e0 e1
  exact ⟨⟨⟨v0, v1, v2⟩, a2⟩, rfl, r2, q2, l2, s0, s1⟩
theorem rows_wt {fuel : Nat} {v : Value} {x : DataW H × List MemPlace} (h : DataW.trod enc Tryz.prog W 0 (fun _ => true) true fuel 23 [v] = some x) (hsz : ∀ n ∈ x.1.weights Tryz.prog 23, n <= reachBytes) :
  ∃ l : List WtL, Rs W 3 v l.length (l.flatMap WtL.cells) /\ (∀ s ∈ l, WtIn W s) /\ l.length <= reachBytes :=
 have : Inhabited WtL := ⟨⟨⟨[], [], []⟩, .nilIface⟩⟩
 open_rows (α := WtL) (sz := 3) (bs := 56) Tryz.underlying23 (by kernel_rfl) (by kernel_rfl) (by decide) (by decide) WtL.cells (fun _ => rfl) (WtIn W) one_wt h hsz
set_option maxRecDepth 100000 in
theorem open_code {fuel : Nat} {cs : List Value} {x : DataW H × List MemPlace} (h : DataW.trod enc Tryz.prog W 0 (fun _ => true) true fuel 27 cs = some x) (hsz : ∀ n ∈ x.1.weights Tryz.prog 27, n <= reachBytes) :
  ∃ L : CoL, cs = L.vals /\ CR W L /\ L.code.ok /\ L.fns.length <= reachBytes /\ L.casts.length <= reachBytes /\ L.nums.length <= reachBytes /\ L.texts.length <= reachBytes /\ L.types.length <= reachBytes /\
   (∀ g ∈ L.fns, FnIn W g) /\ (∀ g ∈ L.casts, WtIn W g) /\ (∀ x ∈ L.texts, x.length <= reachBytes) /\ ∀ x ∈ L.types, x.length <= reachBytes := by
 obtain ⟨ys, n, _, hx, hlen, hyl, hf⟩ := DataW.trod_struct Tryz.underlying27 h
 have hl : cs.length = 5 := hlen.trans (by kernel_rfl)
 have c___api_Function : Tryz.prog.cellsOf 22 = 1 := by kernel_rfl
 have c___api_Waits : Tryz.prog.cellsOf 23 = 1 := by kernel_rfl
 have c___int64 : Tryz.prog.cellsOf 24 = 1 := by kernel_rfl
 have c___string : Tryz.prog.cellsOf 25 = 1 := by kernel_rfl
 match cs, hl, ys, hyl with
 | [a0, a1, a2, a3, a4], _, [y0, y1, y2, y3, y4], _ =>
  have h0 : DataW.trod enc Tryz.prog W 0 (fun _ => true) true n 22 ((([a0, a1, a2, a3, a4] : List Value).drop 0).take (Tryz.prog.cellsOf 22)) = some y0 := hf 0 _ rfl
  rw [c___api_Function] at h0
  have h1 : DataW.trod enc Tryz.prog W 0 (fun _ => true) true n 23 ((([a0, a1, a2, a3, a4] : List Value).drop 1).take (Tryz.prog.cellsOf 23)) = some y1 := hf 1 _ rfl
  rw [c___api_Waits] at h1
  have h2 : DataW.trod enc Tryz.prog W 0 (fun _ => true) true n 24 ((([a0, a1, a2, a3, a4] : List Value).drop 2).take (Tryz.prog.cellsOf 24)) = some y2 := hf 2 _ rfl
  rw [c___int64] at h2
  have h3 : DataW.trod enc Tryz.prog W 0 (fun _ => true) true n 25 ((([a0, a1, a2, a3, a4] : List Value).drop 3).take (Tryz.prog.cellsOf 25)) = some y3 := hf 3 _ rfl
  rw [c___string] at h3
  have h4 : DataW.trod enc Tryz.prog W 0 (fun _ => true) true n 25 ((([a0, a1, a2, a3, a4] : List Value).drop 4).take (Tryz.prog.cellsOf 25)) = some y4 := hf 4 _ rfl
  rw [c___string] at h4
  have hw : ∀ (j : Nat) (t : TypeId) (d : DataW H) (m : Nat), ([22, 23, 24, 25, 25] : List Nat)[j]? = some t -> ([y0.1, y1.1, y2.1, y3.1, y4.1] : List (DataW H))[j]? = some d -> m ∈ d.weights Tryz.prog t -> m <= reachBytes := by
   intro j t d m hj hd hm
   refine hsz m ?_
   rw [hx]
   unfold DataW.weights
   rw [Tryz.underlying27]
   exact DataW.weights_mem_each (j := j) (t := t) (d := d) hj hd _ hm
  simp only [List.drop_zero, List.drop_succ_cons, List.take_succ_cons, List.take_zero] at h0 h1 h2 h3 h4
  obtain ⟨v0, r0, q0, l0⟩ := rows_fn h0 (fun m hm => hw 0 _ _ m rfl rfl hm)
  obtain ⟨v1, r1, q1, l1⟩ := rows_wt h1 (fun m hm => hw 1 _ _ m rfl rfl hm)
  obtain ⟨v2, r2, q2, l2⟩ := rows_num h2 (fun m hm => hw 2 _ _ m rfl rfl hm)
  obtain ⟨v3, r3, q3, l3⟩ := rows_str h3 (fun m hm => hw 3 _ _ m rfl rfl hm)
  obtain ⟨v4, r4, q4, l4⟩ := rows_str h4 (fun m hm => hw 4 _ _ m rfl rfl hm)
  refine ⟨⟨v0, v1, v2, v3, v4, a0, a1, a2, a3, a4⟩, rfl, ⟨r0, r1, r2, r3, r4, fun g hg => (q0 g hg).1, fun g hg => (q0 g hg).2.1, fun g hg => (q1 g hg).1⟩, ⟨fun f hf => ?_, fun f hf => ?_, q2⟩, l0, l1, l2, l3, l4, q0, q1, q3, q4⟩
  ·
   obtain ⟨g, hg, rfl⟩ := List.mem_map.1 hf
   exact (q0 g hg).2.2.1
  ·
   obtain ⟨g, hg, rfl⟩ := List.mem_map.1 hf
   exact (q1 g hg).2.1
end
end Go.Proofs.YtobplngonkdbpaaGreatDoor.D
/- CgP -/
namespace Go.Proofs.YtobplngonkdbpaaGreatDoor.D
open Go.RowKit Go.Proofs.YtobplngonkdbpaaGreatDoor.B Go.ChangeShapes Go.WideShapes
set_option linter.unusedVariables false
theorem rbd_in {W : World} {L : CoL} (h0 : L.fns.length <= reachBytes) (h1 : L.casts.length <= reachBytes) (h2 : L.nums.length <= reachBytes) (h3 : L.texts.length <= reachBytes) (h4 : L.types.length <= reachBytes)
  (hf : ∀ g ∈ L.fns, FnIn W g) (hc : ∀ g ∈ L.casts, WtIn W g) (ht : ∀ x ∈ L.texts, x.length <= reachBytes) (hy : ∀ x ∈ L.types, x.length <= reachBytes) : RBd L := by
 have e : reachBytes <= 140737488355328 := by decide
 refine ⟨by omega, by omega, by omega, by omega, by omega, fun x hx => by have := ht x hx; omega, fun x hx => by have := hy x hx; omega, fun g hg => ?_, fun g hg => ?_⟩
 ·
  obtain ⟨_, _, _, q1, q2, q3, q4, q5⟩ := hf g hg
  exact ⟨by omega, by omega, by omega, by omega, fun x hx => by have := q5 x hx; omega⟩
 ·
  obtain ⟨_, _, q1, q2, q3⟩ := hc g hg
  exact ⟨by omega, by omega, by omega⟩
end Go.Proofs.YtobplngonkdbpaaGreatDoor.D
/- GlIn -/
namespace Go.Proofs.YtobplngonkdbpaaGreatDoor.D
open Go.RowKit Go.Proofs.YtobplngonkdbpaaGreatDoor.B
open Go.Proofs.YtobplngonkdbpaaGreatDoor.T (Tab)
set_option linter.unusedVariables false
def deb64 : List Int := [0, 1, 56, 2, 57, 49, 28, 3, 61, 58, 42, 50, 38, 29, 17, 4, 62, 47, 59, 36, 45, 43, 51, 22, 53, 39, 33, 30, 24, 18, 12, 5, 63, 55, 48, 27, 60, 41, 37, 16, 46, 35, 44, 21, 52, 32, 23, 11, 54, 26, 40, 15, 34, 20, 31, 10, 25, 14, 19, 9, 13, 8, 7, 6]
theorem keep_pow : (Rows.codeShowsRow.laid.filter fun x => x.1 == "internal/strconv.uint64pow10") = [("internal/strconv.uint64pow10", Lib.tabData .u64 Lib.pow10Tab)] := by kernel_rfl
theorem keep_deb : (Rows.codeShowsRow.laid.filter fun x => x.1 == "math/bits.deBruijn64tab") = [("math/bits.deBruijn64tab", Lib.tabData .u8 deb64)] := by kernel_rfl
theorem g_pow : Tryz.prog.globalNamed "internal/strconv.uint64pow10" = some 1 := by kernel_rfl
theorem g_deb : Tryz.prog.globalNamed "math/bits.deBruijn64tab" = some 5 := by kernel_rfl
theorem t_pow : (Tryz.prog.globals[1]?).map (·.type) = some 230 := by kernel_rfl
theorem t_deb : (Tryz.prog.globals[5]?).map (·.type) = some 247 := by kernel_rfl
theorem tab_in {W : World} (h : laidMetH Tryz.prog Rows.codeShowsRow.laid W) : Tab W := by
 have h2 := h.filter fun x => x.1 == "internal/strconv.uint64pow10"
 rw [keep_pow] at h2
 exact Lib.tabBelow_of_tabIs (Lib.tabIs_of_head (rest := []) g_pow t_pow Tryz.underlying230 Tryz.underlying134 (by kernel_rfl) (by kernel_rfl) h2)
theorem deb_in {W : World} (h : laidMetH Tryz.prog Rows.codeShowsRow.laid W) : W.cell? ⟨5, 15, none⟩ = some (.int .u8 4) := by
 have h2 := h.filter fun x => x.1 == "math/bits.deBruijn64tab"
 rw [keep_deb] at h2
 exact (Lib.tabIs_of_head (rest := []) g_deb t_deb Tryz.underlying247 Tryz.underlying5 (by kernel_rfl) (by kernel_rfl) h2).cell g_deb 15 (by decide)
theorem row_in {W : World} (h : W.ShapedOpen Tryz.prog) (g : Nat) (zero : Array Value) (t : TypeId) (hg : g < Tryz.prog.globals.size) (hr : (((begin Tryz.prog (fun _ _ => 0) default).world.heap[g]?).bind Obj.row?) = some (zero, t)) (hb : Tryz.prog.buildable t = true) :
  ∃ cs, W.heap[g]? = some (.cells cs t) /\ cs.size = zero.size /\ Row.ok Tryz.prog W .any 0 t cs := by
 obtain ⟨cs, h1, h2, h3⟩ := h.1 g zero t hg hr
 exact ⟨cs, h1, h2, h3 hb⟩
set_option maxRecDepth 100000 in
theorem maxl_in {W : World} (h : W.ShapedOpen Tryz.prog) : ∃ m, W.cell? ⟨0, 0, none⟩ = some (.int .i64 m) := by
 obtain ⟨cs, h1, h2, ts, h3, h4, h5⟩ := row_in h 0 #[.int .i64 0] 3 (of_decide_eq_true (by kernel_rfl)) (by kernel_rfl) (by kernel_rfl)
 have e : Tryz.prog.cellTypes Tryz.prog.depth 3 = some [3] := by kernel_rfl
 obtain rfl := Option.some.inj (h3.symm.trans e)
 obtain ⟨v, hv⟩ : ∃ v, cs[0]? = some v := ⟨_, Array.getElem?_eq_getElem (by rw [h2]; decide)⟩
 obtain ⟨u, hu, hc⟩ := h5 0 v hv
 obtain rfl := Option.some.inj hu
 have hcell := (cell_of_row W 0 0 cs 3 (0, 0) h1).trans hv
 unfold Cell.ok at hc
 rw [Tryz.underlying3] at hc
 cases v with
 | int k m =>
  obtain ⟨hk, _⟩ := hc
  rw [hk] at hcell
  exact ⟨m, hcell⟩
 | _ => exact hc.elim
theorem hs_in {W : World} (h : W.ShapedOpen Tryz.prog) : 8 <= W.heap.size := by
 obtain ⟨p, hp⟩ : ∃ p, (((begin Tryz.prog (fun _ _ => 0) default).world.heap[7]?).bind Obj.row?) = some p := Option.isSome_iff_exists.1 (by kernel_rfl)
 obtain ⟨cs, h1, _⟩ := h.1 7 p.1 p.2 (of_decide_eq_true (by kernel_rfl)) hp
 rcases Nat.lt_or_ge 7 W.heap.size with h2 | h2
 · exact h2
 · rw [Array.getElem?_eq_none h2] at h1; cases h1
theorem keep_es : (Rows.codeRoundRow.laid.filter fun x => x.1 == "strconv.ErrSyntax") = [("strconv.ErrSyntax", Rows.laid_strconv_ErrSyntax)] := by kernel_rfl
theorem g_es : Tryz.prog.globalNamed "strconv.ErrSyntax" = some 2 := by kernel_rfl
theorem t_es : (Tryz.prog.globals[2]?).map (·.type) = some 75 := by kernel_rfl
set_option maxRecDepth 100000 in
theorem es_in {W : World} (h : laidMetH Tryz.prog Rows.codeRoundRow.laid W) : ∃ v, W.cell? ⟨2, 0, none⟩ = some v /\ (v = .nilIface \/ ∃ te pe, v = .iface te pe) := by
 have h2 := h.filter fun x => x.1 == "strconv.ErrSyntax"
 rw [keep_es] at h2
 obtain ⟨ps, ⟨g', t', cs, fuel, p, q, hg', ht', hvar, hd, _, _⟩, _⟩ := h2
 obtain rfl := Option.some.inj (g_es.symm.trans hg')
 obtain rfl := Option.some.inj (t_es.symm.trans ht')
 cases fuel with
 | zero => simp [DataW.trod] at hd
 | succ m =>
  unfold DataW.trod at hd
  rw [Tryz.underlying75] at hd
  have hcell := World.var?_cell g_es hvar 0
  rcases hc : cs.toList with _ | ⟨v, _ | ⟨v2, r⟩⟩
  · rw [hc] at hd; simp at hd
  ·
   have h0 : cs[0]? = some v := by rw [<- Array.getElem?_toList, hc]; rfl
   have hcell2 := (show W.cell? ⟨2, 0, none⟩ = cs[0]? by simpa using hcell).trans h0
   refine ⟨v, hcell2, ?_⟩
   rw [hc] at hd
   cases v with
   | nilIface => exact .inl rfl
   | iface a b => exact .inr ⟨a, b, rfl⟩
   | _ => first | (exfalso; simp at hd; done) | (exfalso; cases hd; done)
  · rw [hc] at hd; simp at hd
theorem keep_er : (Rows.codeRoundRow.laid.filter fun x => x.1 == "strconv.ErrRange") = [("strconv.ErrRange", Rows.laid_strconv_ErrRange)] := by kernel_rfl
theorem g_er : Tryz.prog.globalNamed "strconv.ErrRange" = some 3 := by kernel_rfl
theorem t_er : (Tryz.prog.globals[3]?).map (·.type) = some 75 := by kernel_rfl
set_option maxRecDepth 100000 in
theorem er_in {W : World} (h : laidMetH Tryz.prog Rows.codeRoundRow.laid W) : ∃ v, W.cell? ⟨3, 0, none⟩ = some v /\ (v = .nilIface \/ ∃ te pe, v = .iface te pe) := by
 have h2 := h.filter fun x => x.1 == "strconv.ErrRange"
 rw [keep_er] at h2
 obtain ⟨ps, ⟨g', t', cs, fuel, p, q, hg', ht', hvar, hd, _, _⟩, _⟩ := h2
 obtain rfl := Option.some.inj (g_er.symm.trans hg')
 obtain rfl := Option.some.inj (t_er.symm.trans ht')
 cases fuel with
 | zero => simp [DataW.trod] at hd
 | succ m =>
  unfold DataW.trod at hd
  rw [Tryz.underlying75] at hd
  have hcell := World.var?_cell g_er hvar 0
  rcases hc : cs.toList with _ | ⟨v, _ | ⟨v2, r⟩⟩
  · rw [hc] at hd; simp at hd
  ·
   have h0 : cs[0]? = some v := by rw [<- Array.getElem?_toList, hc]; rfl
   have hcell2 := (show W.cell? ⟨3, 0, none⟩ = cs[0]? by simpa using hcell).trans h0
   refine ⟨v, hcell2, ?_⟩
   rw [hc] at hd
   cases v with
   | nilIface => exact .inl rfl
   | iface a b => exact .inr ⟨a, b, rfl⟩
   | _ => first | (exfalso; simp at hd; done) | (exfalso; cases hd; done)
  · rw [hc] at hd; simp at hd
theorem gl_in {W : World} (h : laidMetH Tryz.prog Rows.codeRoundRow.laid W) (hS : W.ShapedOpen Tryz.prog) : Gl W := ⟨tab_in h, hs_in hS, deb_in h, maxl_in hS, es_in h, er_in h⟩
end Go.Proofs.YtobplngonkdbpaaGreatDoor.D
/- CodeShows -/
namespace Go.Proofs.YtobplngonkdbpaaGreatDoor.D
open Go.RowKit Go.Proofs.YtobplngonkdbpaaGreatDoor.B Go.ChangeShapes Go.WideShapes Go.ChangeAt
open Go.ChangeMaps (open_string shut_string)
set_option linter.unusedVariables false
theorem ownCodeShows : ownKnob Tryz.prog.godebug = none := by kernel_rfl
theorem laidOutCodeShows : laidOutB Tryz.prog = true := by kernel_rfl
set_option maxRecDepth 100000 in
theorem contractCodeShows (H : Type) (enc : TypeId × Value -> H) (W : World) (base : Nat) (args : Array Value) (ds gs : List (DataW H)) (before : List MemPlace)
  (hval0 : ∀ (j : Nat) t v, Tryz.f3.params[j]? = some t -> args[j]? = some v -> Value.okWide Tryz.prog W .any base t v)
  (hW : DataW.Whole enc Tryz.prog Tryz.f3.params.toList Rows.codeShowsSpec.vars false W args.toList ds gs before)
  (hsz0 : (DataW.weightsEach Tryz.prog (Tryz.f3.params.toList ++ Rows.codeShowsSpec.plain.varTypes Tryz.prog) (ds ++ gs)).all (· <= reachBytes) = true) (hL : laidMetH Tryz.prog Rows.codeShowsRow.laid W) (hSh : W.ShapedOpen Tryz.prog) :
  Calls Tryz.prog 3 args W fun e W' => ∃ v, e = .returned v /\ Rows.codeShowsSpec.post enc Tryz.prog Tryz.f3 false true false false W args v W' := by
 have hsz : (DataW.weightsEach Tryz.prog (Tryz.f3.params.toList ++ Rows.codeShowsSpec.plain.varTypes Tryz.prog) (ds ++ gs)).all (· <= reachBytes) = true := hsz0
 have hval : ∀ (j : Nat) t v, Tryz.f3.params[j]? = some t -> args[j]? = some v -> Value.okWide Tryz.prog W .any base t v := hval0
 have hW' := hW
 obtain ⟨p, q, hA0, hV, rfl, hfz, hnd⟩ := hW
 have hA : DataW.TrodAll enc Tryz.prog W 0 (fun _ => true) true Tryz.f3.params.toList args.toList ds p := hA0
 rw [Tryz.params3] at hA hval hsz
 obtain ⟨v0, vs0, d0, ds0, p0, q0, hargs, rfl, rfl, h0, r0⟩ := trodAll_cons hA
 obtain ⟨v1, vs1, d1, ds1, p1, q1, rfl, rfl, rfl, h1, r1⟩ := trodAll_cons r0
 obtain ⟨rfl, rfl, rfl⟩ := trodAll_nil r1
 obtain rfl : args = #[v0, v1] := by cases args; simp_all
 obtain ⟨rfl, rfl⟩ := trodVars_none hV
 obtain ⟨ag0, rfl, _⟩ := okWide_struct Tryz.underlying27 (hval 0 27 v0 rfl rfl)
 have k0 := h0
 have lt0 : ∀ x ∈ p0, x.block < W.heap.size := by obtain ⟨m, hm⟩ := k0; exact DataW.trod_lt m _ _ _ hm
 obtain ⟨fuel0, hf0⟩ := h0
 obtain ⟨L0, hag0, hCR0, hok0, bF0, bC0, bN0, bT0, bY0, gF0, gC0, gT0, gY0⟩ := open_code hf0 (fun n hn => by
  have := List.all_eq_true.1 hsz n (DataW.weights_mem_each (j := 0) (t := 27) (d := d0) rfl rfl n hn)
  simpa using this)
 obtain rfl : ag0 = L0.vals.toArray := Array.toList_inj.1 hag0
 have hB0 := rbd_in bF0 bC0 bN0 bT0 bY0 gF0 gC0 gT0 gY0
 obtain ⟨n1, rfl, rfl, rfl, w1⟩ := open_int Tryz.underlying28 (hval 1 28 v1 rfl rfl) h1
 have hb1 := bounds_i8 w1
 clear hA0 hval0
 refine (codeShows_walk L0 n1 W hb1.1 hb1.2 hCR0 hok0 hB0 (gl_in hL hSh)).mono fun e W' ⟨he, bel⟩ => ?_
 subst he
 exact ⟨_, rfl, _, _, _, [], _, [], hW', trodAll_mk1 (shut_bool Tryz.underlying4 _), (trodAll_cons_mk (Below.trod laidOutCodeShows (by kernel_rfl) (of_decide_eq_true (by kernel_rfl)) k0 bel lt0) (trodAll_cons_mk (shut_int Tryz.underlying28 w1) trodAll_mk0)), rfl, bel.frame _, fun h => by cases h⟩
noncomputable def lowCodeShows : Nat := (World.holding Tryz.prog default ⟨#[], #[], []⟩).heap.size
noncomputable def laySenCodeShows (j : Nat) : Obj -> Obj
 | .cells _ t frozen => .cells #[.iface 248 (.pointer (some ⟨lowCodeShows + j, 0, none⟩))] t frozen
 | o => o
def cellsCodeShows : DataW Unit -> Array Value
 | .agg l => (l.flatMap fun | .lit (.int k z) => [Value.int k z] | .agg m => m.map (fun | .lit (.int k z) => Value.int k z | _ => .int .u8 0) | _ => []).toArray
 | _ => #[]
def layCodeShows (d : DataW Unit) : Obj -> Obj
 | .cells _ t frozen => .cells (cellsCodeShows d) t frozen
 | o => o
noncomputable def laidWorldCodeShows (os : Os) : World := { World.holding Tryz.prog os ⟨#[.cells #[.string { data := #[118, 97, 108, 117, 101, 32, 111, 117, 116, 32, 111, 102, 32, 114, 97, 110, 103, 101] }] 250, .cells #[.string { data := #[105, 110, 118, 97, 108, 105, 100, 32, 115, 121, 110, 116, 97, 120] }] 250], #[], []⟩ with heap := ((((((((World.holding Tryz.prog os ⟨#[.cells #[.string { data := #[118, 97, 108, 117, 101, 32, 111, 117, 116, 32, 111, 102, 32, 114, 97, 110, 103, 101] }] 250, .cells #[.string { data := #[105, 110, 118, 97, 108, 105, 100, 32, 115, 121, 110, 116, 97, 120] }] 250], #[], []⟩).heap.modify 4 (layCodeShows Rows.laid_math_bits_deBruijn32tab)).modify 5 (layCodeShows Rows.laid_math_bits_deBruijn64tab)).modify 1 (layCodeShows Rows.laid_internal_strconv_uint64pow10)).modify 7 (layCodeShows Rows.laid_unicode_utf8_acceptRanges)).modify 3 (laySenCodeShows 0)).modify 2 (laySenCodeShows 1)).modify 6 (layCodeShows Rows.laid_unicode_utf8_first)) }
theorem laid_metCodeShows (os : Os) : laidMet Tryz.prog Rows.codeShowsRow.laid ((laidWorldCodeShows os).forCall (fun _ _ => 0) ⟨#[], #[.agg #[.slice none 0 0, .slice none 0 0, .slice none 0 0, .slice none 0 0, .slice none 0 0], .int .i8 0], []⟩).memory :=
 laidMet_of_run' 30 (by kernel_rfl) (by kernel_rfl)
theorem readsCodeShows (os : Os) {H : Type} (enc : TypeId × Value -> H) : ∃ places, DataW.whole enc Tryz.prog ((laidWorldCodeShows os).forCall (fun _ _ => 0) ⟨#[], #[.agg #[.slice none 0 0, .slice none 0 0, .slice none 0 0, .slice none 0 0, .slice none 0 0], .int .i8 0], []⟩).memory Tryz.f3.params.toList Rows.codeShowsSpec.vars false (#[.agg #[.slice none 0 0, .slice none 0 0, .slice none 0 0, .slice none 0 0, .slice none 0 0], .int .i8 0] : Array Value).toList 8 = some ([.agg [.nil, .nil, .nil, .nil, .nil], .lit (.int .i8 0)], [], places) :=
 ⟨[], by kernel_rfl⟩
set_option maxRecDepth 100000 in
theorem liftedCodeShows (os : Os) (started : os.Started) (H : Type) (enc : TypeId × Value -> H) (F : Stop.Interp) :
  ReturnsInHanded {} Tryz.checked os 3 .any ((OpenSpec.ofChange Rows.codeShowsSpec).preRow enc Tryz.prog Tryz.f3 Rows.codeShowsRow.domain false Rows.codeShowsRow.laid) (((OpenSpec.ofChange Rows.codeShowsSpec).at F).post enc Tryz.prog Tryz.f3 false true false false) := by
 obtain ⟨places, hx⟩ := readsCodeShows os enc
 refine returnsInHanded_of_row (C := Tryz.checked) (s := OpenSpec.ofChange Rows.codeShowsSpec) ownCodeShows started (by kernel_rfl) Tryz.func3
  (witness_row_at (enc := enc) (C := Tryz.checked) false (laidWorldCodeShows os) #[.agg #[.slice none 0 0, .slice none 0 0, .slice none 0 0, .slice none 0 0, .slice none 0 0], .int .i8 0] rfl (by kernel_rfl) (by kernel_rfl) (by kernel_rfl)
   (OpenSpec.preRow_of_cond 8 hx (by kernel_rfl) (fun k hk => by cases hk) (by kernel_rfl) (laid_metCodeShows os))) ?_
 intro W base args ds gs before hval hW _ _ hsz hL hSh _
 exact contractCodeShows H enc W base args ds gs before hval hW hsz hL hSh
theorem saidCodeShows : Rows.CodeShowsSaid :=
 OpenClaim.holds_of_cond 3 Tryz.f3 rfl rfl rfl rfl rfl rfl rfl ⟨rfl, rfl, rfl, rfl, rfl⟩ rfl rfl rfl rfl rfl (by kernel_rfl) Tryz.func3 (by kernel_rfl)
  (of_decide_eq_true (by kernel_rfl)) (by unfold Func.isWrapper; first | (rw [if_pos (by decide +kernel)]; kernel_rfl) | (rw [if_neg (by decide +kernel)]; exact ⟨rfl, rfl⟩))
  (fun os started H enc _ F => by rw [OpenClaim.pre_eq_preRow]; exact liftedCodeShows os started H enc F)
theorem plainCodeShows (f : FuncId) (fn : Func) (hf : Tryz.pinned.checked.prog.funcNamed "culprit/culpritlaw18.CodeShows" = some f) (hfn : Tryz.pinned.checked.prog.funcs[f]? = some fn) :
  true = Tryz.pinned.checked.prog.looks [] /\ ∀ (j : Nat) t, fn.params[j]? = some t -> Tryz.pinned.checked.prog.wantsStandIn t = false := by
 obtain rfl : f = 3 := Option.some.inj ((show Tryz.prog.funcNamed "culprit/culpritlaw18.CodeShows" = some 3 by kernel_rfl).symm.trans hf) |>.symm
 obtain rfl : fn = Tryz.f3 := (Option.some.inj (Tryz.func3.symm.trans hfn)).symm
 refine ⟨by kernel_rfl, fun j t ht => ?_⟩
 rw [Tryz.params3] at ht
 have hm := Array.mem_of_getElem? ht
 simp only [List.mem_toArray, List.mem_cons, List.not_mem_nil, or_false] at hm
 rcases hm with rfl | rfl
 · exact (show Tryz.prog.wantsStandIn 27 = false by kernel_rfl)
 · exact (show Tryz.prog.wantsStandIn 28 = false by kernel_rfl)
theorem codeShows_card : Rows.CodeShowsCardSaid :=
 Claim7.holds_tied_plain_at .later [] _ _ _ _ saidCodeShows (fun _ h => by cases h) (by kernel_rfl) (fun _ h => by cases h) codeShows_row_tie rfl ⟨rfl, rfl⟩ (by kernel_rfl) rfl plainCodeShows (by kernel_rfl)
#print axioms codeShows_card
end Go.Proofs.YtobplngonkdbpaaGreatDoor.D
