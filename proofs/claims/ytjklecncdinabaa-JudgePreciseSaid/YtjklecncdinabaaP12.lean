/- Parts of this claim: CkH, CkI, CkJ. -/
import Derived.Carry
import Derived.MapKept
import Derived.MapFrom
import Derived.Test.YtjklecncdinabaaP11
set_option linter.unusedVariables false
set_option linter.unusedSimpArgs false
/- CkH -/
namespace Go.Proofs.Ytjklecncdinabaa.K
open Go.RowKit Go.Proofs.Ytjklecncdinabaa.B Go.Proofs.Ytjklecncdinabaa.T
set_option linter.unusedVariables false
set_option linter.unusedSimpArgs false

/-- A map in block r; nothing else is touched since W0. -/
structure MapAt (W0 : World) (r : Nat) (es : Array MapEntry) (cl : Nat) (W : World) : Prop where
  map : W.heap[r]? = some (.map es cl)
  but : But (fun k => k = r) W0 W
  size : W.heap.size = W0.heap.size
theorem MapAt.start {W : World} {r : Nat} {es : Array MapEntry} {cl : Nat} (h : W.heap[r]? = some (.map es cl)) : MapAt W r es cl W := ⟨h, But.refl _ _, rfl⟩

theorem run_ins {P : Program} {W : World} {t kt et : TypeId} (ht : P.underlying t = some (.map kt et)) (hk : P.underlying kt = some (.int .i8)) {r : Nat} {key : Int} {val : Value} {es : Array MapEntry} {cl : Nat} (hW : W.heap[r]? = some (.map es cl))
    (hf : Instr.findNow (.int .i8) (.int .i8 key) es.toList 0 = some none) : (Instr.mapUpdate t (.map (some r)) (.int .i8 key) val).run P W = .ok () { W with heap := W.heap.setIfInBounds r (.map (es.push ⟨.int .i8 key, val, cl⟩) (cl + 1)) } := by
  have hkey : MapKept.IsKey (.int .i8) (.int .i8 key) := by trivial
  simp [Instr.mapUpdate, run_underlying ht, MapKept.run_getObj_map hW, MapKept.run_checkKey hk hkey, MapKept.run_findKey hk hf, MapKept.run_setObj_map _ hW, Result.andThen]
theorem MapAt.step {W0 W : World} {r : Nat} {es : Array MapEntry} {cl : Nat} (h : MapAt W0 r es cl W) (x : MapEntry) : MapAt W0 r (es.push x) (cl + 1) { W with heap := W.heap.setIfInBounds r (.map (es.push x) (cl + 1)) } := by
  have hr : r < W.heap.size := (Array.getElem?_eq_some_iff.1 h.map).1
  refine ⟨?_, ⟨h.but.os, h.but.tape, h.but.output, ?_, fun k hk hne => ?_⟩, ?_⟩
  · simp [hr]
  · simpa using h.but.size
  · rw [← h.but.block k hk hne]
    simp only [Array.getElem?_setIfInBounds]
    rw [if_neg (fun e => hne e.symm)]
  · simpa using h.size
theorem wpList_ins {P : Program} {W W0 : World} {ops : Array Oper} {rest : List Oper} {o : Oper} {a : Act} {Q : Exit → Act → World → Prop} (hg : o.guard = none) (m x v : Operand) (t : TypeId) (hop : o.op = Op.insert t m x v) (kt et : TypeId)
    (ht : P.underlying t = some (.map kt et)) (hk : P.underlying kt = some (.int .i8)) (r : Nat) (hm : a.eval m = .map (some r)) (key : Int) (val : Value) (hx : a.eval x = .int .i8 key) (hv : a.eval v = val) (es : Array MapEntry) (cl : Nat) (hW : MapAt W0 r es cl W)
    (hf : Instr.findNow (.int .i8) (.int .i8 key) es.toList 0 = some none) (hK : ∀ W', MapAt W0 r (es.push ⟨.int .i8 key, val, cl⟩) (cl + 1) W' → wpList P ops Q rest (a.put o.dst undef) W') : wpList P ops Q (o :: rest) a W := by
  refine wpList_plain hg fun K' hK' => ?_
  have hrun := run_ins (val := val) ht hk hW.map hf
  unfold Oper.wp
  simp [execOp, hop, hm, hx, hv, hrun, Result.andThen]
  exact hK' _ _ (hK _ (hW.step _))
theorem run_look {P : Program} {W : World} {t kt et : TypeId} (ht : P.underlying t = some (.map kt et)) (hk : P.underlying kt = some (.int .i8)) {r i : Nat} {key : Int} {val : Value} {es : Array MapEntry} {cl : Nat} (hW : W.heap[r]? = some (.map es cl))
    (hf : Instr.findNow (.int .i8) (.int .i8 key) es.toList 0 = some (some (i, val))) : (Instr.lookup t (.map (some r)) (.int .i8 key) false).run P W = .ok val W := by
  have hkey : MapKept.IsKey (.int .i8) (.int .i8 key) := by trivial
  simp [Instr.lookup, run_underlying ht, MapKept.run_getObj_map hW, MapKept.run_checkKey hk hkey, MapKept.run_findKey hk hf, Result.andThen]


theorem ins_step {P : Program} {W W0 : World} {t kt et : TypeId} (ht : P.underlying t = some (.map kt et)) (hk : P.underlying kt = some (.int .i8)) {r : Nat} {es : Array MapEntry} {cl : Nat} (h : MapAt W0 r es cl W) (key : Int) (val : Value)
    (hf : Instr.findNow (.int .i8) (.int .i8 key) es.toList 0 = some none) : ∃ W', (Instr.mapUpdate t (.map (some r)) (.int .i8 key) val).run P W = .ok () W' ∧ MapAt W0 r (es.push ⟨.int .i8 key, val, cl⟩) (cl + 1) W' := ⟨_, run_ins ht hk h.map hf, h.step _⟩
theorem MapAt.bt {W0 W : World} {r : Nat} {es : Array MapEntry} {cl : Nat} (h : MapAt W0 r es cl W) : Bt r W0 W := h.but
theorem MapAt.cell {W0 W : World} {r : Nat} {es : Array MapEntry} {cl : Nat} (h : MapAt W0 r es cl W) {p : Addr} (hp : p.block < W0.heap.size) (hr : p.block ≠ r) : W.cell? p = W0.cell? p := h.bt.cell hp hr

set_option maxRecDepth 100000 in
set_option maxHeartbeats 2000000 in
theorem leaf_x (cp kv : Value) (kd kids nn : Int) (s t u : ByteArray) (ln cl : Int) (a : Int) (T : Ty) (w : World) (h : (kd = 1 ∧ T = tI) ∨ (kd = 2 ∧ T = tT) ∨ (kd = 3 ∧ T = tB)) :
    Calls Try.prog 40 #[cp, .agg #[.int .i8 kd, .int .i64 kids, .int .i64 nn, .string s, .string t, .string u, .int .i64 ln, .int .i64 cl], kv, .int .i64 a] w fun e w' => RuleQ (.ok T) w e w' := by
  have hmk : ∀ (t : TypeId) (W : World), (Instr.makeMap t none).run Try.prog W = .ok (.map (some W.heap.size)) (W.alloc (.map #[] 0)) := fun _ _ => rfl
  go_enter Try.func40, Try.ntmps40
  go_upto_region 1 with fail
  obtain ⟨W, hW⟩ : ∃ W, w.alloc (.cells #[.int .i8 kd, .int .i64 kids, .int .i64 nn, .string s, .string t, .string u, .int .i64 ln, .int .i64 cl] 50) = W := ⟨_, rfl⟩
  rw [hW]
  have hbk : Blk W w.heap.size 50 #[.int .i8 kd, .int .i64 kids, .int .i64 nn, .string s, .string t, .string u, .int .i64 ln, .int .i64 cl] := by rw [← hW]; exact Blk.new _ _ _
  have hbw : Below w.heap.size w W := by rw [← hW]; exact bal b0 _
  have hM : MapAt (W.alloc (.map #[] 0)) W.heap.size #[] 0 (W.alloc (.map #[] 0)) := MapAt.start (heap_alloc_new W _)
  have ht1 : Try.prog.underlying 100 = some (.map 46 9) := Try.underlying100
  have hk1 : Try.prog.underlying 46 = some (.int .i8) := Try.underlying46
  obtain ⟨W1, i1, m1⟩ := ins_step ht1 hk1 hM 1 (.string ⟨#[105]⟩) rfl
  obtain ⟨W2, i2, m2⟩ := ins_step ht1 hk1 m1 2 (.string ⟨#[116]⟩) rfl
  obtain ⟨W3, i3, m3⟩ := ins_step ht1 hk1 m2 3 (.string ⟨#[98]⟩) rfl
  have hb3 : Below w.heap.size w W3 := (bal hbw (.map #[] 0)).trans (m3.but.below (by simp only [World.size_alloc]; have := hbw.size; omega) (fun k hk => by rw [hk]; exact hbw.size))
  have c0 : W3.cell? ⟨w.heap.size, 0, none⟩ = some (.int .i8 kd) := (m3.cell (p := ⟨w.heap.size, 0, none⟩) (by simp only [World.size_alloc]; have := hbk.lt; show w.heap.size < _; omega) (by have := hbk.lt; show w.heap.size ≠ _; omega)).trans (((hbk.alloc (.map #[] 0)).cell 0).trans rfl)
  have hlk : (Instr.lookup 100 (.map (some W.heap.size)) (.int .i8 kd) false).run Try.prog W3 = .ok (.string (str T)) W3 := by
    rcases h with ⟨rfl, rfl⟩ | ⟨rfl, rfl⟩ | ⟨rfl, rfl⟩
    · exact run_look (i := 0) ht1 hk1 m3.map rfl
    · exact run_look (i := 1) ht1 hk1 m3.map rfl
    · exact run_look (i := 2) ht1 hk1 m3.map rfl
  have HB := Lib.hid hb3
  clear hW hbk hbw hM m1 m2 m3 hb3 ht1 hk1 h
  go_wp2_with fail
  go_ret
  exact RuleQ.ok HB.out rfl
end Go.Proofs.Ytjklecncdinabaa.K

/- CkI -/
namespace Go.Proofs.Ytjklecncdinabaa.K
open Go.RowKit Go.Proofs.Ytjklecncdinabaa.B Go.Proofs.Ytjklecncdinabaa.T
set_option linter.unusedVariables false
set_option linter.unusedSimpArgs false

/-- Which function stands at a kind. -/
def ruleL (c0 c1 c2 c3 : Nat) : List (Int × Value) := [(1, .func (.func 40) #[] #[]), (2, .func (.func 40) #[] #[]), (3, .func (.func 40) #[] #[]), (30, .func (.func 41) #[] #[]), (7, .func (.func 42) #[] #[]), (9, .func (.func 43) #[] #[]), (10, .func (.func 62) #[] #[.pointer (some ⟨c0, 0, none⟩), .pointer (some ⟨c0 + 1, 0, none⟩)]), (11, .func (.func 62) #[] #[.pointer (some ⟨c0, 0, none⟩), .pointer (some ⟨c0 + 1, 0, none⟩)]), (12, .func (.func 62) #[] #[.pointer (some ⟨c0, 0, none⟩), .pointer (some ⟨c0 + 1, 0, none⟩)]), (16, .func (.func 62) #[] #[.pointer (some ⟨c0, 0, none⟩), .pointer (some ⟨c0 + 1, 0, none⟩)]), (14, .func (.func 62) #[] #[.pointer (some ⟨c1, 0, none⟩), .pointer (some ⟨c1 + 1, 0, none⟩)]), (15, .func (.func 62) #[] #[.pointer (some ⟨c1, 0, none⟩), .pointer (some ⟨c1 + 1, 0, none⟩)]), (13, .func (.func 62) #[] #[.pointer (some ⟨c2, 0, none⟩), .pointer (some ⟨c2 + 1, 0, none⟩)]), (17, .func (.func 62) #[] #[.pointer (some ⟨c3, 0, none⟩), .pointer (some ⟨c3 + 1, 0, none⟩)]), (18, .func (.func 44) #[] #[]), (19, .func (.func 45) #[] #[]), (20, .func (.func 45) #[] #[]), (21, .func (.func 46) #[] #[]), (22, .func (.func 47) #[] #[]), (23, .func (.func 47) #[] #[]), (24, .func (.func 47) #[] #[]), (25, .func (.func 48) #[] #[]), (26, .func (.func 49) #[] #[]), (27, .func (.func 50) #[] #[]), (28, .func (.func 51) #[] #[])]
/-- A closure of all, in memory: what each kid is, what comes of it. -/
def Clo (W : World) (cb c : Nat) (x y : Ty) : Prop := c + 1 < W.heap.size ∧ c ≠ cb ∧ c + 1 ≠ cb ∧ W.cell? ⟨c, 0, none⟩ = some (.string (str x)) ∧ W.cell? ⟨c + 1, 0, none⟩ = some (.string (str y))
/-- The rules' map, in block mb, not in block cb. -/
def RulesAt (W : World) (cb mb : Nat) (c0 c1 c2 c3 : Nat) : Prop := mb ≠ cb ∧ mb < W.heap.size ∧ (∃ es cl, W.heap[mb]? = some (.map es cl) ∧ ∀ p ∈ ruleL c0 c1 c2 c3, ∃ i, Instr.findNow (.int .i8) (.int .i8 p.1) es.toList 0 = some (some (i, p.2))) ∧
  Clo W cb c0 tI tI ∧ Clo W cb c1 tI tB ∧ Clo W cb c2 tT tT ∧ Clo W cb c3 tT tI
theorem Clo.bt {W W' : World} {cb c : Nat} {x y : Ty} (h : Clo W cb c x y) (hb : Bt cb W W') : Clo W' cb c x y := by
  obtain ⟨h1, h2, h3, h4, h5⟩ := h
  exact ⟨Nat.lt_of_lt_of_le h1 hb.size, h2, h3, (hb.cell (p := ⟨c, 0, none⟩) (by show c < _; omega) h2).trans h4, (hb.cell (p := ⟨c + 1, 0, none⟩) h1 h3).trans h5⟩
theorem RulesAt.bt {W W' : World} {cb mb c0 c1 c2 c3 : Nat} (h : RulesAt W cb mb c0 c1 c2 c3) (hb : Bt cb W W') : RulesAt W' cb mb c0 c1 c2 c3 := by
  obtain ⟨h1, h2, ⟨es, cl, h3, h4⟩, k0, k1, k2, k3⟩ := h
  exact ⟨h1, Nat.lt_of_lt_of_le h2 hb.size, ⟨es, cl, (hb.block mb h2 h1).trans h3, h4⟩, k0.bt hb, k1.bt hb, k2.bt hb, k3.bt hb⟩
theorem RulesAt.look {W : World} {cb mb c0 c1 c2 c3 : Nat} (h : RulesAt W cb mb c0 c1 c2 c3) (k : Int) (v : Value) (hp : (k, v) ∈ ruleL c0 c1 c2 c3) : (Instr.lookup 76 (.map (some mb)) (.int .i8 k) false).run Try.prog W = .ok v W := by
  obtain ⟨_, _, ⟨es, cl, h3, h4⟩, _⟩ := h
  obtain ⟨i, hi⟩ := h4 _ hp
  exact run_look Try.underlying76 Try.underlying46 h3 hi

def RulesQ (w : World) (e : Ending) (w' : World) : Prop := Below w.heap.size w w' ∧ ∃ mb c0 c1 c2 c3, e = .returned (.map (some mb)) ∧ w.heap.size ≤ mb ∧ w.heap.size ≤ c0 ∧ w.heap.size ≤ c1 ∧ w.heap.size ≤ c2 ∧ w.heap.size ≤ c3 ∧ ∀ cb, w'.heap.size ≤ cb → RulesAt w' cb mb c0 c1 c2 c3


set_option maxRecDepth 100000 in
set_option maxHeartbeats 8000000 in
theorem rules_any (w : World) : Calls Try.prog 26 #[] w fun e w' => RulesQ w e w' := by
  have hmk : ∀ (t : TypeId) (W : World), (Instr.makeMap t none).run Try.prog W = .ok (.map (some W.heap.size)) (W.alloc (.map #[] 0)) := fun _ _ => rfl
  go_enter Try.func26, Try.ntmps26
  go_wp2_with fail
  (refine (all_mk _ _ _).mono ?_); rintro e u1 ⟨rfl, hb1, hs1, p1, q1⟩
  have U1 := Lib.hid (And.intro hb1 (And.intro hs1 (And.intro p1 q1)))
  clear hb1 hs1 p1 q1
  go_wp2_with fail
  (refine (all_mk _ _ _).mono ?_); rintro e u2 ⟨rfl, hb2, hs2, p2, q2⟩
  have U2 := Lib.hid (And.intro hb2 (And.intro hs2 (And.intro p2 q2)))
  clear hb2 hs2 p2 q2
  go_wp2_with fail
  (refine (all_mk _ _ _).mono ?_); rintro e u3 ⟨rfl, hb3, hs3, p3, q3⟩
  have U3 := Lib.hid (And.intro hb3 (And.intro hs3 (And.intro p3 q3)))
  clear hb3 hs3 p3 q3
  obtain ⟨c0, hc0⟩ : ∃ c0, w.heap.size = c0 := ⟨_, rfl⟩
  obtain ⟨c1, hc1⟩ : ∃ c1, u1.heap.size = c1 := ⟨_, rfl⟩
  obtain ⟨c2, hc2⟩ : ∃ c2, u2.heap.size = c2 := ⟨_, rfl⟩
  rw [hc0, hc1, hc2]
  obtain ⟨hb1, hs1, p1, q1⟩ := U1.out
  obtain ⟨hb2, hs2, p2, q2⟩ := U2.out
  obtain ⟨hb3, hs3, p3, q3⟩ := U3.out
  have k0 : u3.cell? ⟨c0, 0, none⟩ = some (.string (str tI)) ∧ u3.cell? ⟨c0 + 1, 0, none⟩ = some (.string (str tI)) := by
    rw [← hc0]
    exact ⟨((bl hb2 hb3).cell (p := ⟨w.heap.size, 0, none⟩) (by show w.heap.size < _; omega)).trans p1, ((bl hb2 hb3).cell (p := ⟨w.heap.size + 1, 0, none⟩) (by show w.heap.size + 1 < _; omega)).trans q1⟩
  have k1 : u3.cell? ⟨c1, 0, none⟩ = some (.string (str tI)) ∧ u3.cell? ⟨c1 + 1, 0, none⟩ = some (.string (str tB)) := by
    rw [← hc1]
    exact ⟨(hb3.cell (p := ⟨u1.heap.size, 0, none⟩) (by show u1.heap.size < _; omega)).trans p2, (hb3.cell (p := ⟨u1.heap.size + 1, 0, none⟩) (by show u1.heap.size + 1 < _; omega)).trans q2⟩
  have k2 : u3.cell? ⟨c2, 0, none⟩ = some (.string (str tT)) ∧ u3.cell? ⟨c2 + 1, 0, none⟩ = some (.string (str tT)) := by
    rw [← hc2]; exact ⟨p3, q3⟩
  have hall : Below w.heap.size w u3 := bl (bl hb1 hb2) hb3
  have HS := Lib.hid (And.intro hs1 (And.intro hs2 (And.intro hs3 (And.intro hc0 (And.intro hc1 hc2)))))
  have HU := Lib.hid (And.intro hall (And.intro k0 (And.intro k1 k2)))
  clear hb1 hb2 hb3 hs1 hs2 hs3 p1 p2 p3 q1 q2 q3 hc0 hc1 hc2 k0 k1 k2 hall U1 U2 U3
  have ht1 : Try.prog.underlying 76 = some (.map 46 90) := Try.underlying76
  have hk1 : Try.prog.underlying 46 = some (.int .i8) := Try.underlying46
  have m0 : MapAt (u3.alloc (.map #[] 0)) u3.heap.size #[] 0 (u3.alloc (.map #[] 0)) := MapAt.start (heap_alloc_new u3 _)

  obtain ⟨W1, i1, m1⟩ := ins_step ht1 hk1 m0 1 (.func (.func 40) #[] #[]) (by kernel_rfl)
  obtain ⟨W2, i2, m2⟩ := ins_step ht1 hk1 m1 2 (.func (.func 40) #[] #[]) (by kernel_rfl)
  obtain ⟨W3, i3, m3⟩ := ins_step ht1 hk1 m2 3 (.func (.func 40) #[] #[]) (by kernel_rfl)
  obtain ⟨W4, i4, m4⟩ := ins_step ht1 hk1 m3 30 (.func (.func 41) #[] #[]) (by kernel_rfl)
  obtain ⟨W5, i5, m5⟩ := ins_step ht1 hk1 m4 7 (.func (.func 42) #[] #[]) (by kernel_rfl)
  obtain ⟨W6, i6, m6⟩ := ins_step ht1 hk1 m5 9 (.func (.func 43) #[] #[]) (by kernel_rfl)
  obtain ⟨W7, i7, m7⟩ := ins_step ht1 hk1 m6 10 (.func (.func 62) #[] #[.pointer (some ⟨c0, 0, none⟩), .pointer (some ⟨c0 + 1, 0, none⟩)]) (by kernel_rfl)
  obtain ⟨W8, i8, m8⟩ := ins_step ht1 hk1 m7 11 (.func (.func 62) #[] #[.pointer (some ⟨c0, 0, none⟩), .pointer (some ⟨c0 + 1, 0, none⟩)]) (by kernel_rfl)
  obtain ⟨W9, i9, m9⟩ := ins_step ht1 hk1 m8 12 (.func (.func 62) #[] #[.pointer (some ⟨c0, 0, none⟩), .pointer (some ⟨c0 + 1, 0, none⟩)]) (by kernel_rfl)
  obtain ⟨W10, i10, m10⟩ := ins_step ht1 hk1 m9 16 (.func (.func 62) #[] #[.pointer (some ⟨c0, 0, none⟩), .pointer (some ⟨c0 + 1, 0, none⟩)]) (by kernel_rfl)
  obtain ⟨W11, i11, m11⟩ := ins_step ht1 hk1 m10 14 (.func (.func 62) #[] #[.pointer (some ⟨c1, 0, none⟩), .pointer (some ⟨c1 + 1, 0, none⟩)]) (by kernel_rfl)
  obtain ⟨W12, i12, m12⟩ := ins_step ht1 hk1 m11 15 (.func (.func 62) #[] #[.pointer (some ⟨c1, 0, none⟩), .pointer (some ⟨c1 + 1, 0, none⟩)]) (by kernel_rfl)
  obtain ⟨W13, i13, m13⟩ := ins_step ht1 hk1 m12 13 (.func (.func 62) #[] #[.pointer (some ⟨c2, 0, none⟩), .pointer (some ⟨c2 + 1, 0, none⟩)]) (by kernel_rfl)
  have HM := Lib.hid m13
  have HT := Lib.hid (And.intro ht1 hk1)
  clear ht1 hk1 m0 m1 m2 m3 m4 m5 m6 m7 m8 m9 m10 m11 m12 m13
  go_wp2_with fail
  (refine (all_mk _ _ _).mono ?_); rintro e V0 ⟨rfl, hb4, hs4, p4, q4⟩
  clear i1 i2 i3 i4 i5 i6 i7 i8 i9 i10 i11 i12 i13
  obtain ⟨ht1, hk1⟩ := HT.out
  obtain ⟨mb, hmb⟩ : ∃ mb, u3.heap.size = mb := ⟨_, rfl⟩
  have hm := HM.out
  obtain ⟨c3, hc3⟩ : ∃ c3, W13.heap.size = c3 := ⟨_, rfl⟩
  have hsz := hm.size
  rw [World.size_alloc, hmb, hc3] at hsz
  rw [hmb] at hm ⊢
  rw [hc3] at hs4 p4 q4 ⊢
  have n0 : MapAt V0 mb _ _ V0 := MapAt.start ((hb4.block mb (by rw [hc3]; omega)).trans hm.map)
  have HV := Lib.hid (And.intro hm (And.intro hb4 (And.intro hs4 (And.intro p4 (And.intro q4 (And.intro hmb (And.intro hc3 hsz)))))))
  clear hm hb4 hs4 p4 q4 hmb hc3 hsz HM HT

  obtain ⟨X1, j1, n1⟩ := ins_step ht1 hk1 n0 17 (.func (.func 62) #[] #[.pointer (some ⟨c3, 0, none⟩), .pointer (some ⟨c3 + 1, 0, none⟩)]) (by kernel_rfl)
  obtain ⟨X2, j2, n2⟩ := ins_step ht1 hk1 n1 18 (.func (.func 44) #[] #[]) (by kernel_rfl)
  obtain ⟨X3, j3, n3⟩ := ins_step ht1 hk1 n2 19 (.func (.func 45) #[] #[]) (by kernel_rfl)
  obtain ⟨X4, j4, n4⟩ := ins_step ht1 hk1 n3 20 (.func (.func 45) #[] #[]) (by kernel_rfl)
  obtain ⟨X5, j5, n5⟩ := ins_step ht1 hk1 n4 21 (.func (.func 46) #[] #[]) (by kernel_rfl)
  obtain ⟨X6, j6, n6⟩ := ins_step ht1 hk1 n5 22 (.func (.func 47) #[] #[]) (by kernel_rfl)
  obtain ⟨X7, j7, n7⟩ := ins_step ht1 hk1 n6 23 (.func (.func 47) #[] #[]) (by kernel_rfl)
  obtain ⟨X8, j8, n8⟩ := ins_step ht1 hk1 n7 24 (.func (.func 47) #[] #[]) (by kernel_rfl)
  obtain ⟨X9, j9, n9⟩ := ins_step ht1 hk1 n8 25 (.func (.func 48) #[] #[]) (by kernel_rfl)
  obtain ⟨X10, j10, n10⟩ := ins_step ht1 hk1 n9 26 (.func (.func 49) #[] #[]) (by kernel_rfl)
  obtain ⟨X11, j11, n11⟩ := ins_step ht1 hk1 n10 27 (.func (.func 50) #[] #[]) (by kernel_rfl)
  obtain ⟨X12, j12, n12⟩ := ins_step ht1 hk1 n11 28 (.func (.func 51) #[] #[]) (by kernel_rfl)
  have HN := Lib.hid n12
  clear ht1 hk1 n0 n1 n2 n3 n4 n5 n6 n7 n8 n9 n10 n11 n12
  go_wp2_with fail
  go_ret
  obtain ⟨hs1, hs2, hs3, hc0, hc1, hc2⟩ := HS.out
  obtain ⟨hall, k0, k1, k2⟩ := HU.out
  obtain ⟨hm, hb4, hs4, p4, q4, hmb, hc3, hsz⟩ := HV.out
  have hn := HN.out
  have hz := hn.size
  have g1 : Bt mb (u3.alloc (.map #[] 0)) W13 := hm.bt
  have g2 : Bt mb (u3.alloc (.map #[] 0)) X12 := (g1.trans (Bt.below hb4)).trans hn.bt
  have hmu : mb = u3.heap.size := hmb.symm
  have cellU : ∀ x v, x < u3.heap.size → u3.cell? ⟨x, 0, none⟩ = some v → X12.cell? ⟨x, 0, none⟩ = some v := fun x v hx hv =>
    (g2.cell (p := ⟨x, 0, none⟩) (by simp only [World.size_alloc]; omega) (by show x ≠ mb; omega)).trans ((World.cell?_of_block (w := u3) (Below.heap_alloc u3 (.map #[] 0) x hx)).trans hv)
  have cellV : ∀ x v, x < V0.heap.size → x ≠ mb → V0.cell? ⟨x, 0, none⟩ = some v → X12.cell? ⟨x, 0, none⟩ = some v := fun x v hx hne hv => (hn.bt.cell (p := ⟨x, 0, none⟩) hx hne).trans hv
  refine ⟨(bal hall (.map #[] 0)).trans (But.below g2 (by simp only [World.size_alloc]; omega) (fun k hk => by omega)), mb, c0, c1, c2, c3, rfl, by omega, by omega, by omega, by omega, by omega, fun cb hcb => ?_⟩
  refine ⟨by omega, by omega, ⟨_, _, hn.map, ?_⟩, ⟨by omega, by omega, by omega, cellU _ _ (by omega) k0.1, cellU _ _ (by omega) k0.2⟩, ⟨by omega, by omega, by omega, cellU _ _ (by omega) k1.1, cellU _ _ (by omega) k1.2⟩, ⟨by omega, by omega, by omega, cellU _ _ (by omega) k2.1, cellU _ _ (by omega) k2.2⟩,
    ⟨by omega, by omega, by omega, cellV _ _ (by omega) (by omega) p4, cellV _ _ (by omega) (by omega) q4⟩⟩
  intro p hp
  simp only [ruleL, List.mem_cons, List.not_mem_nil, or_false] at hp
  rcases hp with rfl | rfl | rfl | rfl | rfl | rfl | rfl | rfl | rfl | rfl | rfl | rfl | rfl | rfl | rfl | rfl | rfl | rfl | rfl | rfl | rfl | rfl | rfl | rfl | rfl
  · exact ⟨0, by kernel_rfl⟩
  · exact ⟨1, by kernel_rfl⟩
  · exact ⟨2, by kernel_rfl⟩
  · exact ⟨3, by kernel_rfl⟩
  · exact ⟨4, by kernel_rfl⟩
  · exact ⟨5, by kernel_rfl⟩
  · exact ⟨6, by kernel_rfl⟩
  · exact ⟨7, by kernel_rfl⟩
  · exact ⟨8, by kernel_rfl⟩
  · exact ⟨9, by kernel_rfl⟩
  · exact ⟨10, by kernel_rfl⟩
  · exact ⟨11, by kernel_rfl⟩
  · exact ⟨12, by kernel_rfl⟩
  · exact ⟨13, by kernel_rfl⟩
  · exact ⟨14, by kernel_rfl⟩
  · exact ⟨15, by kernel_rfl⟩
  · exact ⟨16, by kernel_rfl⟩
  · exact ⟨17, by kernel_rfl⟩
  · exact ⟨18, by kernel_rfl⟩
  · exact ⟨19, by kernel_rfl⟩
  · exact ⟨20, by kernel_rfl⟩
  · exact ⟨21, by kernel_rfl⟩
  · exact ⟨22, by kernel_rfl⟩
  · exact ⟨23, by kernel_rfl⟩
  · exact ⟨24, by kernel_rfl⟩
end Go.Proofs.Ytjklecncdinabaa.K

/- CkJ -/
namespace Go.Proofs.Ytjklecncdinabaa.K
open Go.RowKit Go.Proofs.Ytjklecncdinabaa.B Go.Proofs.Ytjklecncdinabaa.T
set_option linter.unusedVariables false
set_option linter.unusedSimpArgs false

theorem blk_cells8 {w : World} {g : Nat} {t : TypeId} {u0 u1 u2 u3 u4 u5 u6 u7 : Value} (h : Blk w g t #[u0, u1, u2, u3, u4, u5, u6, u7]) :
    w.cell? ⟨g, 0, none⟩ = some u0 ∧ w.cell? ⟨g, 1, none⟩ = some u1 ∧ w.cell? ⟨g, 2, none⟩ = some u2 ∧ w.cell? ⟨g, 3, none⟩ = some u3 ∧ w.cell? ⟨g, 4, none⟩ = some u4 ∧ w.cell? ⟨g, 5, none⟩ = some u5 ∧ w.cell? ⟨g, 6, none⟩ = some u6 ∧ w.cell? ⟨g, 7, none⟩ = some u7 :=
  ⟨h.cell 0, h.cell 1, h.cell 2, h.cell 3, h.cell 4, h.cell 5, h.cell 6, h.cell 7⟩
/-- The binders' types in memory, not in block cb. -/
def EnvAt (w : World) (cb : Nat) (A : Option Addr) (env : List Ty) : Prop := env = [] ∨ ∃ b o, A = some ⟨b, o, none⟩ ∧ b ≠ cb ∧ b < w.heap.size ∧ ∀ j t, env[j]? = some t → w.cell? ⟨b, o + j, none⟩ = some (.string (str t))
theorem EnvAt.bt {w w' : World} {cb : Nat} {A : Option Addr} {env : List Ty} (h : EnvAt w cb A env) (hb : Bt cb w w') : EnvAt w' cb A env := by
  rcases h with h | ⟨b, o, h1, h2, h3, h4⟩
  · exact .inl h
  · exact .inr ⟨b, o, h1, h2, Nat.lt_of_lt_of_le h3 hb.size, fun j t ht => (hb.cell (p := ⟨b, o + j, none⟩) h3 h2).trans (h4 j t ht)⟩
/-- Behind typed: a type, and where it stands; or how it ended. -/
def TypQ (R : Rs Ty) (cb : Nat) (A : Option Addr) (N c : Nat) (rl : Value) (a' : Nat) (w : World) (e : Ending) (w' : World) : Prop := Bt cb w w' ∧ match R with
  | .ok t => e = .returned (.string (str t)) ∧ Chk w' cb A N c a' rl
  | .bad E x => e = Flaw E x
theorem TypQ.bad {E : Int} {x cb N c a' : Nat} {A : Option Addr} {rl : Value} {w w' : World} (h : Bt cb w w') : TypQ (.bad E x) cb A N c rl a' w (.panicked [{ v := .iface 73 (.agg #[.int .i64 E, .int .i64 x]), recovered := false }]) w' := ⟨h, rfl⟩
theorem TypQ.ok {t : Ty} {s : ByteArray} {cb N c a' : Nat} {A : Option Addr} {rl : Value} {w w' : World} (h : Bt cb w w') (hc : Chk w' cb A N c a' rl) (hs : s = str t) : TypQ (.ok t) cb A N c rl a' w (.returned (.string s)) w' := ⟨h, by rw [hs], hc⟩
/-- typed's contract, at one tree. -/
def TypP (L : List Tn) (A : Option Addr) (c mb cb c0 c1 c2 c3 : Nat) (n : Tn) (k : Tf) : Prop := ∀ (a : Nat) (rest : List Tn) (env : List Ty) (Ae : Option Addr) (ce : Nat) (w : World), L.drop a = n :: (k.list ++ rest) → Tf.wf (.cons n k .nil) → (∀ t ∈ env, okT t) → env.length ≤ ce → env.length + 2 * (k.high + 1) ≤ 100000 →
  EnvAt w cb Ae env → Chk w cb A L.length c a (.map (some mb)) → LT w cb A L → RulesAt w cb mb c0 c1 c2 c3 →
  Calls Try.prog 29 #[.pointer (some ⟨cb, 0, none⟩), .slice Ae env.length ce] w fun e w' => TypQ (tyT n k env a) cb A L.length c (.map (some mb)) (a + 1 + k.sz) w e w'


set_option maxRecDepth 100000 in
set_option maxHeartbeats 4000000 in
theorem typed_bad (kd : Int) (kids nn : Int) (s t u : ByteArray) (ln cl : Int) (L : List Tn) (A : Option Addr) (c mb cb c0 c1 c2 c3 : Nat) (k : Tf) (a : Nat) (env : List Ty) (Ae : Option Addr) (ce : Nat) (w : World)
    (hn : L[a]? = some ⟨kd, kids, nn, s, t, u, ln, cl⟩) (hsm : Tn.small ⟨kd, kids, nn, s, t, u, ln, cl⟩) (hen : EnvAt w cb Ae env) (henv : ∀ t ∈ env, okT t) (henc : env.length ≤ ce) (henl : env.length ≤ 100000) (hc : Chk w cb A L.length c a (.map (some mb))) (hL : LT w cb A L) (hrl : RulesAt w cb mb c0 c1 c2 c3) (hN : L.length ≤ 1000000) (hLc : L.length ≤ c) (E : Int) (hE0 : wordsE ⟨kd, kids, nn, s, t, u, ln, cl⟩ env.length = E) (hE1 : E ≠ 0) :
    Calls Try.prog 29 #[.pointer (some ⟨cb, 0, none⟩), .slice Ae env.length ce] w fun e w' => TypQ (.bad E a) cb A L.length c (.map (some mb)) (a + 1 + k.sz) w e w' := by
  have HE := Lib.hid (And.intro hE0 hE1)
  clear hE0 hE1
  obtain ⟨c0', c1', c2'⟩ := hc.cells
  have hcl : cb < w.heap.size := hc.lt
  have hal : a < L.length := (List.getElem?_eq_some_iff.1 hn).1
  obtain ⟨b, o, rfl, hbc, hbl, q0, q1, q2, q3, q4, q5, q6, q7⟩ := hL.node hn
  simp only at q0 q1 q2 q3 q4 q5 q6 q7
  have hwd := fun W => words_any ⟨kd, kids, nn, s, t, u, ln, cl⟩ a env.length W hsm
  unfold Tn.val at hwd
  simp only at hwd
  obtain ⟨N, hNe⟩ : ∃ N, L.length = N := ⟨_, rfl⟩
  rw [hNe] at c0' hal hN hLc hc ⊢
  obtain ⟨EL, hEL⟩ : ∃ x, env.length = x := ⟨_, rfl⟩
  rw [hEL] at hwd henl HE ⊢
  have hcr := hc.frozen 1
  have hbk : Blk (w.alloc (.cells #[.int .i8 kd, .int .i64 kids, .int .i64 nn, .string s, .string t, .string u, .int .i64 ln, .int .i64 cl] 50)) w.heap.size 50 #[.int .i8 kd, .int .i64 kids, .int .i64 nn, .string s, .string t, .string u, .int .i64 ln, .int .i64 cl] := Blk.new _ _ _
  have hck : Chk (w.alloc (.cells #[.int .i8 kd, .int .i64 kids, .int .i64 nn, .string s, .string t, .string u, .int .i64 ln, .int .i64 cl] 50)) cb (some ⟨b, o, none⟩) N c a (.map (some mb)) := Blk.alloc hc _
  have HW0 := Lib.hid (And.intro hck (And.intro hbk (And.intro hNe hEL)))
  have HWD := Lib.hid hwd
  have HIN := Lib.hid (And.intro hL (And.intro hen hrl))
  clear hc hck hbk hNe hEL hwd hL hen hrl hcr
  go_enter Try.func29, Try.ntmps29
  go_upto_region 3 with fail
  obtain ⟨hck, hbk, hNe, hEL⟩ := HW0.out
  obtain ⟨W1, hW1⟩ : ∃ W1, w.alloc (.cells #[.int .i8 kd, .int .i64 kids, .int .i64 nn, .string s, .string t, .string u, .int .i64 ln, .int .i64 cl] 50) = W1 := ⟨_, rfl⟩
  have hbt0 : Bt cb w W1 := by rw [← hW1]; exact Bt.alloc (But.refl _ _) _
  rw [hW1] at hck hbk ⊢
  obtain ⟨p0, p1, p2⟩ := hck.cells
  have pf := hck.frozen 1
  have HW1 := Lib.hid (And.intro hck (And.intro hbk (And.intro hbt0 (And.intro hNe hEL))))
  clear hW1 hck hbk hbt0 hNe hEL HW0 c0' c1' c2' q0 q1 q2 q3 q4 q5 q6 q7
  go_upto_region 4 with fail
  obtain ⟨hck, hbk, hbt0, hNe, hEL⟩ := HW1.out
  obtain ⟨W2, hW2⟩ : ∃ W2, W1.setCell ⟨cb, 1, none⟩ (.int .i64 ((a : Int) + 1)) = W2 := ⟨_, rfl⟩
  have hc1 : Chk W2 cb (some ⟨b, o, none⟩) N c ((a : Int) + 1) (.map (some mb)) := by rw [← hW2]; exact hck.set _
  have hbk1 : Blk W2 w.heap.size 50 #[.int .i8 kd, .int .i64 kids, .int .i64 nn, .string s, .string t, .string u, .int .i64 ln, .int .i64 cl] := by rw [← hW2]; exact hbk.far (p := ⟨cb, 1, none⟩) (show w.heap.size ≠ cb by omega) _
  have hbt1 : Bt cb w W2 := by rw [← hW2]; exact hbt0.set_ 1 _
  have HW := Lib.hid (And.intro hc1 (And.intro hbk1 (And.intro hbt1 (And.intro hNe hEL))))
  rw [hW2]
  clear hck hbk hbt0 hNe hEL hc1 hbk1 hbt1 HW1
  obtain ⟨n0, n1, n2, n3, n4, n5, n6, n7⟩ := blk_cells8 HW.out.2.1
  clear hW2 p0 p1 p2 pf
  go_wp2_with fail
  (refine (HWD.out _).mono ?_); rintro e W3 ⟨he, hb3⟩
  rw [HE.out.1, if_neg HE.out.2] at he
  subst he
  have HB := Lib.hid (HW.out.2.2.1.trans (Bt.below hb3))
  clear hb3
  unfold Flaw
  go_wp2_with fail
  exact bodyPost_panic rfl (TypQ.bad HB.out)


set_option maxRecDepth 100000 in
set_option maxHeartbeats 4000000 in
theorem typed_var (kids nn : Int) (s t u : ByteArray) (ln cl : Int) (L : List Tn) (A : Option Addr) (c mb cb c0 c1 c2 c3 : Nat) (k : Tf) (a : Nat) (env : List Ty) (Ae : Option Addr) (ce : Nat) (w : World)
    (hn : L[a]? = some ⟨4, kids, nn, s, t, u, ln, cl⟩) (hsm : Tn.small ⟨4, kids, nn, s, t, u, ln, cl⟩) (hen : EnvAt w cb Ae env) (henv : ∀ t ∈ env, okT t) (henc : env.length ≤ ce) (henl : env.length ≤ 100000) (hc : Chk w cb A L.length c a (.map (some mb))) (hL : LT w cb A L) (hrl : RulesAt w cb mb c0 c1 c2 c3) (hN : L.length ≤ 1000000) (hLc : L.length ≤ c) (hE : wordsE ⟨4, kids, nn, s, t, u, ln, cl⟩ env.length = 0) (hk : k.sz = 0) :
    Calls Try.prog 29 #[.pointer (some ⟨cb, 0, none⟩), .slice Ae env.length ce] w fun e w' => TypQ (.ok (env.getD nn.toNat tI)) cb A L.length c (.map (some mb)) (a + 1 + k.sz) w e w' := by
  have HE := Lib.hid hE
  have hnn : 0 ≤ nn ∧ nn < env.length := by
    unfold wordsE at hE
    simp only [show ¬ ((4 : Int) = 2) by decide, show ¬ ((4 : Int) = 3) by decide, if_false, if_true] at hE
    split at hE
    · rename_i h; exact h
    · cases hE
  obtain ⟨j, hj⟩ : ∃ j : Nat, nn = j := ⟨nn.toNat, by omega⟩
  subst hj
  have hjl : j < env.length := by omega
  obtain ⟨T, hT⟩ : ∃ T, env[j]? = some T := ⟨_, List.getElem?_eq_getElem hjl⟩
  have hTd : env.getD (j : Int).toNat tI = T := by rw [Int.toNat_natCast, List.getD_eq_getElem?_getD, hT]; rfl
  rw [hTd]
  obtain ⟨eb, eo, rfl, he1, he2, he3⟩ := hen.resolve_left (fun e => by rw [e] at hjl; simp at hjl)
  have hec := he3 j T hT
  have HEC := Lib.hid (And.intro he1 (And.intro he2 hec))
  have HKZ := Lib.hid hk
  clear hE hnn hTd hT hk
  have hen : EnvAt w cb (some ⟨eb, eo, none⟩) env := .inr ⟨eb, eo, rfl, he1, he2, he3⟩
  clear he1 he2 he3 hec
  obtain ⟨c0', c1', c2'⟩ := hc.cells
  have hcl : cb < w.heap.size := hc.lt
  have hal : a < L.length := (List.getElem?_eq_some_iff.1 hn).1
  obtain ⟨b, o, rfl, hbc, hbl, q0, q1, q2, q3, q4, q5, q6, q7⟩ := hL.node hn
  simp only at q0 q1 q2 q3 q4 q5 q6 q7
  have hwd := fun W => words_any ⟨4, kids, (j : Int), s, t, u, ln, cl⟩ a env.length W hsm
  unfold Tn.val at hwd
  simp only at hwd
  obtain ⟨N, hNe⟩ : ∃ N, L.length = N := ⟨_, rfl⟩
  rw [hNe] at c0' hal hN hLc hc ⊢
  obtain ⟨EL, hEL⟩ : ∃ x, env.length = x := ⟨_, rfl⟩
  rw [hEL] at hwd henl HE hjl henc ⊢
  have hcr := hc.frozen 1
  have hbk : Blk (w.alloc (.cells #[.int .i8 4, .int .i64 kids, .int .i64 (j : Int), .string s, .string t, .string u, .int .i64 ln, .int .i64 cl] 50)) w.heap.size 50 #[.int .i8 4, .int .i64 kids, .int .i64 (j : Int), .string s, .string t, .string u, .int .i64 ln, .int .i64 cl] := Blk.new _ _ _
  have hck : Chk (w.alloc (.cells #[.int .i8 4, .int .i64 kids, .int .i64 (j : Int), .string s, .string t, .string u, .int .i64 ln, .int .i64 cl] 50)) cb (some ⟨b, o, none⟩) N c a (.map (some mb)) := Blk.alloc hc _
  have HW0 := Lib.hid (And.intro hck (And.intro hbk (And.intro hNe hEL)))
  have HWD := Lib.hid hwd
  have HIN := Lib.hid (And.intro hL (And.intro hen hrl))
  clear hc hck hbk hNe hEL hwd hL hen hrl hcr
  go_enter Try.func29, Try.ntmps29
  go_upto_region 3 with fail
  obtain ⟨hck, hbk, hNe, hEL⟩ := HW0.out
  obtain ⟨W1, hW1⟩ : ∃ W1, w.alloc (.cells #[.int .i8 4, .int .i64 kids, .int .i64 (j : Int), .string s, .string t, .string u, .int .i64 ln, .int .i64 cl] 50) = W1 := ⟨_, rfl⟩
  have hbt0 : Bt cb w W1 := by rw [← hW1]; exact Bt.alloc (But.refl _ _) _
  rw [hW1] at hck hbk ⊢
  obtain ⟨p0, p1, p2⟩ := hck.cells
  have pf := hck.frozen 1
  have HW1 := Lib.hid (And.intro hck (And.intro hbk (And.intro hbt0 (And.intro hNe hEL))))
  clear hW1 hck hbk hbt0 hNe hEL HW0 c0' c1' c2' q0 q1 q2 q3 q4 q5 q6 q7
  go_upto_region 4 with fail
  obtain ⟨hck, hbk, hbt0, hNe, hEL⟩ := HW1.out
  obtain ⟨W2, hW2⟩ : ∃ W2, W1.setCell ⟨cb, 1, none⟩ (.int .i64 ((a : Int) + 1)) = W2 := ⟨_, rfl⟩
  have hc1 : Chk W2 cb (some ⟨b, o, none⟩) N c ((a : Int) + 1) (.map (some mb)) := by rw [← hW2]; exact hck.set _
  have hbk1 : Blk W2 w.heap.size 50 #[.int .i8 4, .int .i64 kids, .int .i64 (j : Int), .string s, .string t, .string u, .int .i64 ln, .int .i64 cl] := by rw [← hW2]; exact hbk.far (p := ⟨cb, 1, none⟩) (show w.heap.size ≠ cb by omega) _
  have hbt1 : Bt cb w W2 := by rw [← hW2]; exact hbt0.set_ 1 _
  have HW := Lib.hid (And.intro hc1 (And.intro hbk1 (And.intro hbt1 (And.intro hNe hEL))))
  rw [hW2]
  clear hck hbk hbt0 hNe hEL hc1 hbk1 hbt1 HW1
  obtain ⟨n0, n1, n2, n3, n4, n5, n6, n7⟩ := blk_cells8 HW.out.2.1
  clear hW2 p0 p1 p2 pf
  go_wp2_with fail
  (refine (HWD.out _).mono ?_); rintro e W3 ⟨he, hb3⟩
  rw [if_pos HE.out] at he
  subst he
  have hbt3 : Bt cb w W3 := HW.out.2.2.1.trans (Bt.below hb3)
  have hc3 : Chk W3 cb (some ⟨b, o, none⟩) N c ((a : Int) + 1) (.map (some mb)) := HW.out.1.below hb3 HW.out.1.lt
  have hb3' : Blk W3 w.heap.size 50 #[.int .i8 4, .int .i64 kids, .int .i64 (j : Int), .string s, .string t, .string u, .int .i64 ln, .int .i64 cl] := HW.out.2.1.below hb3 HW.out.2.1.lt
  have H3 := Lib.hid (And.intro hbt3 (And.intro hc3 (And.intro hb3' (And.intro HW.out.2.2.2.1 (And.intro HW.out.2.2.2.2 hb3.size)))))
  clear n0 n1 n2 n3 n4 n5 n6 n7 hb3 hbt3 hc3
  obtain ⟨n0, n1, n2, n3, n4, n5, n6, n7⟩ := blk_cells8 hb3'
  clear hb3'
  have hce := (H3.out.1.cell (p := ⟨eb, eo + j, none⟩) HEC.out.2.1 HEC.out.1).trans HEC.out.2.2
  go_wp2_with fail
  go_ret
  exact TypQ.ok H3.out.1 (by rw [HKZ.out]; exact H3.out.2.1) rfl
end Go.Proofs.Ytjklecncdinabaa.K
