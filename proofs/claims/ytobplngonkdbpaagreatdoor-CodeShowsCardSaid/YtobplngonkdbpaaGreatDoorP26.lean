/- Parts of this claim: BgA. -/
import Derived.Test.YtobplngonkdbpaaGreatDoorP01
import Derived.Test.YtobplngonkdbpaaGreatDoorP11
import Derived.Test.YtobplngonkdbpaaGreatDoorP13
import Derived.Test.YtobplngonkdbpaaGreatDoorP14
import Derived.Test.YtobplngonkdbpaaGreatDoorP15
import Derived.Test.YtobplngonkdbpaaGreatDoorP16
import Derived.Test.YtobplngonkdbpaaGreatDoorP25
set_option linter.unusedVariables false
set_option linter.unusedSimpArgs false
/- BgA -/
namespace Go.Proofs.YtobplngonkdbpaaGreatDoor.B
open Go.RowKit
open Go.Proofs.YtobplngonkdbpaaGreatDoor.D
set_option linter.unusedSimpArgs false
set_option linter.unusedVariables false
/-- The kinds that are used. -/
def Us (q : Nat) : Prop := q = 2 \/ q = 4 \/ q = 6 \/ q = 9 \/ q = 15 \/ q = 16
def TLof (q : Nat) : TypeId := if q = 2 then 24 else if q = 4 then 25 else if q = 6 then 82 else if q = 9 then 88 else if q = 15 then 22 else 23
def bagTs : List TypeId := [59, 24, 25, 82, 88, 22, 23]
theorem tl_ne {q q' : Nat} (h : Us q) (h' : Us q') (hne : q ≠ q') : TLof q ≠ TLof q' := by
 rcases h with rfl | rfl | rfl | rfl | rfl | rfl <;> rcases h' with rfl | rfl | rfl | rfl | rfl | rfl <;> first | exact absurd rfl hne | decide
theorem tl_in {q : Nat} (h : Us q) : TLof q ∈ bagTs := by
 rcases h with rfl | rfl | rfl | rfl | rfl | rfl <;> decide
theorem us_lt {q : Nat} (h : Us q) : q < 18 := by
 rcases h with rfl | rfl | rfl | rfl | rfl | rfl <;> decide
/-- Blocks of other types than the bag's are as they were. -/
structure Kp (w w' : World) : Prop where
 os : w'.os = w.os
 tape : w'.tape = w.tape
 output : w'.output = w.output
 size : w.heap.size <= w'.heap.size
 blk : ∀ (k : Nat) (o : Obj), w.heap[k]? = some o -> (∀ cs T z, o = Obj.cells cs T z -> T ∉ bagTs) -> w'.heap[k]? = some o
theorem Kp.refl (w : World) : Kp w w := ⟨rfl, rfl, rfl, Nat.le_refl _, fun _ _ h _ => h⟩
theorem Kp.trans {a b c : World} (h : Kp a b) (k : Kp b c) : Kp a c :=
 ⟨k.os.trans h.os, k.tape.trans h.tape, k.output.trans h.output, Nat.le_trans h.size k.size, fun i o hi ho => k.blk i o (h.blk i o hi ho) ho⟩
theorem Kp.of_below {a b : World} (h : Below a.heap.size a b) : Kp a b :=
 ⟨h.os, h.tape, h.output, h.size, fun k o hk _ => by rw [h.block k (Array.getElem?_eq_some_iff.1 hk).1]; exact hk⟩
theorem Kp.blk_ {w w' : World} {b : Nat} {T : TypeId} {cs : Array Value} (h : Kp w w') (k : Blk w b T cs) (hT : T ∉ bagTs) : Blk w' b T cs :=
 h.blk b _ k fun cs' T' z' e => by injection e with e1 e2 e3; rw [<- e2]; exact hT
theorem own_blk {w : World} {base sz n : Nat} {e : TypeId} {v : Value} {xs : List Value} {b : Nat} (h : w.ownsRow base e sz v n xs) (hb : v.ownBlock = some b) : ∃ cur, w.heap[b]? = some (.cells cur e (0, 0)) := by
 rcases h.2 with ⟨rfl, _⟩ | ⟨g, cap, cur, rfl, _, hg, _⟩
 · cases hb
 · injection hb with hb; subst hb; exact ⟨cur, hg⟩
theorem own_ne {w : World} {base base' sz sz' n n' : Nat} {e e' : TypeId} {v v' : Value} {xs xs' : List Value} (h : w.ownsRow base e sz v n xs) (h' : w.ownsRow base' e' sz' v' n' xs') (hne : e ≠ e') : Ap v v' := fun b hb hb' => by
 obtain ⟨c1, h1⟩ := own_blk h hb
 obtain ⟨c2, h2⟩ := own_blk h' hb'
 rw [h1] at h2
 injection h2 with h2
 injection h2 with _ h3 _
 exact hne h3
theorem own_at {w w' : World} {base sz n : Nat} {e : TypeId} {v : Value} {xs : List Value} (h : w.ownsRow base e sz v n xs) (hb : ∀ b, v.ownBlock = some b -> w'.heap[b]? = w.heap[b]?) : w'.ownsRow base e sz v n xs := by
 refine ⟨h.1, ?_⟩
 rcases h.2 with h2 | ⟨g, cap, cur, rfl, hbg, hg, r⟩
 · exact .inl h2
 · exact .inr ⟨g, cap, cur, rfl, hbg, (hb g rfl).trans hg, r⟩
/-- A bag: of each kind the lists that were added. -/
structure BagS (w : World) (gb : Nat) (K : Nat -> List Value) : Prop where
 row : ∃ f, w.rowIs gb 59 18 f /\ ∀ q, q < 18 -> (f q = .slice none 0 0 /\ K q = []) \/ (Us q /\ w.ownsRow (gb + 1) (TLof q) 1 (f q) (K q).length (K q))
 len : ∀ q, (K q).length <= 300
def add1 (K : Nat -> List Value) (a : Nat × Value) : Nat -> List Value := fun q => if q = a.1 /\ (K q).length < 300 then K q ++ [a.2] else K q
theorem add1_full {K : Nat -> List Value} {a : Nat × Value} (h : ¬ (K a.1).length < 300) : add1 K a = K := by
 funext q
 unfold add1
 by_cases e : q = a.1 /\ (K q).length < 300
 · exact absurd (e.1 ▸ e.2) h
 · rw [if_neg e]
theorem BagS.lt {w : World} {gb : Nat} {K : Nat -> List Value} (h : BagS w gb K) : gb < w.heap.size := by
 obtain ⟨f, hr, _⟩ := h.row; exact hr.lt
theorem BagS.grow {w w' : World} {gb : Nat} {K : Nat -> List Value} (h : BagS w gb K) (hb : Below w.heap.size w w') : BagS w' gb K := by
 obtain ⟨f, hr, hf⟩ := h.row
 refine ⟨⟨f, hr.of_block (hb.block gb hr.lt), fun q hq => ?_⟩, h.len⟩
 rcases hf q hq with hf | ⟨hu, hf⟩
 · exact .inl hf
 · exact .inr ⟨hu, own_below hf hb⟩
/-- Behind an Add. -/
def AddB (gb : Nat) (K : Nat -> List Value) (l : List (Nat × Value)) (w : World) (e : Ending) (w' : World) : Prop :=
 e = .returned (.tuple #[]) /\ BagS w' gb (l.foldl add1 K) /\ Kp w w' /\ Below gb w w'
theorem BagS.kind {w : World} {gb : Nat} {K : Nat -> List Value} (h : BagS w gb K) {q : Nat} (hu : Us q) : ∃ f, w.rowIs gb 59 18 f /\ w.ownsRow (gb + 1) (TLof q) 1 (f q) (K q).length (K q) /\ ∀ q, q < 18 -> (f q = .slice none 0 0 /\ K q = []) \/ (Us q /\ w.ownsRow (gb + 1) (TLof q) 1 (f q) (K q).length (K q)) := by
 obtain ⟨f, hr, hf⟩ := h.row
 refine ⟨f, hr, ?_, hf⟩
 rcases hf q (us_lt hu) with ⟨h1, h2⟩ | ⟨_, h1⟩
 · rw [h1, h2]; exact World.ownsRow_nil _ _ _ _
 · exact h1
theorem BagS.added {w w' : World} {gb q : Nat} {K : Nat -> List Value} {f : Nat -> Value} {l : Value} {e : Ending} (h : BagS w gb K) (hu : Us q) (hl : (K q).length < 300) (hr : w.rowIs gb 59 18 f)
  (hf : ∀ q, q < 18 -> (f q = .slice none 0 0 /\ K q = []) \/ (Us q /\ w.ownsRow (gb + 1) (TLof q) 1 (f q) (K q).length (K q)))
  (ha : AddO gb (gb + 1) q (K q).length 59 (TLof q) f (K q) l w e w') : AddB gb K [(q, l)] w e w' := by
 obtain ⟨he, f', hr', hsame, ho, hbut, _⟩ := ha
 have hfq : w.ownsRow (gb + 1) (TLof q) 1 (f q) (K q).length (K q) := by
  rcases hf q (us_lt hu) with ⟨h1, h2⟩ | ⟨_, h1⟩
  · rw [h1, h2]; exact World.ownsRow_nil _ _ _ _
  · exact h1
 have hty : ∀ k cs T z, w.heap[k]? = some (.cells cs T z) -> T ∉ bagTs -> ¬ (k = gb \/ (f q).ownBlock = some k) := by
  rintro k cs T z hk hT (rfl | hb)
  ·
   obtain ⟨cs', hc, _⟩ := hr
   rw [hk] at hc
   injection hc with hc
   injection hc with _ h2 _
   exact hT (h2 ▸ (by decide : 59 ∈ bagTs))
  ·
   obtain ⟨cur, h1⟩ := own_blk hfq hb
   rw [hk] at h1
   injection h1 with h1
   injection h1 with _ h2 _
   exact hT (h2 ▸ tl_in hu)
 refine ⟨he, ⟨⟨f', hr', fun k hk => ?_⟩, fun k => ?_⟩, ⟨hbut.os, hbut.tape, hbut.output, hbut.size, fun k o hk ho' => ?_⟩, hbut.below (Nat.le_of_lt hr.lt) fun k hk => ?_⟩
 ·
  show (f' k = _ /\ add1 K (q, l) k = []) \/ (Us k /\ w'.ownsRow (gb + 1) (TLof k) 1 (f' k) (add1 K (q, l) k).length (add1 K (q, l) k))
  by_cases hkq : k = q
  ·
   subst hkq
   right
   have e1 : add1 K (k, l) k = K k ++ [l] := by unfold add1; rw [if_pos ⟨rfl, hl⟩]
   rw [e1, List.length_append]
   exact ⟨hu, ho⟩
  ·
   have e1 : add1 K (q, l) k = K k := by unfold add1; rw [if_neg (fun h => hkq h.1)]
   rw [e1, hsame k hkq]
   rcases hf k hk with h1 | ⟨h1, h2⟩
   · exact .inl h1
   ·
    refine .inr ⟨h1, own_at h2 fun b hb => hbut.block b (h2.lt b hb).2 ?_⟩
    rintro (rfl | hb')
    · have := (h2.lt _ hb).1; omega
    · exact own_ne h2 hfq (tl_ne h1 hu hkq) b hb hb'
 ·
  show (add1 K (q, l) k).length <= 300
  unfold add1
  split
  · rename_i hc; rw [List.length_append, List.length_singleton]; omega
  · exact h.len k
 ·
  by_cases hC : k = gb \/ (f q).ownBlock = some k
  ·
   exfalso
   rcases hC with rfl | hb
   ·
    obtain ⟨cs', hc, _⟩ := hr
    exact ho' _ _ _ (Option.some.inj (hk.symm.trans hc)) (by decide)
   ·
    obtain ⟨cur, h1⟩ := own_blk hfq hb
    exact ho' _ _ _ (Option.some.inj (hk.symm.trans h1)) (tl_in hu)
  · rw [hbut.block k (Array.getElem?_eq_some_iff.1 hk).1 hC]; exact hk
 ·
  rcases hk with rfl | hb
  · exact Nat.le_refl _
  · have := (hfq.lt k hb).1; omega
theorem AddB.trans {gb : Nat} {K : Nat -> List Value} {l l' : List (Nat × Value)} {w w1 w' : World} {e e' : Ending} (h : AddB gb K l w e w1) (k : AddB gb (l.foldl add1 K) l' w1 e' w') : AddB gb K (l ++ l') w e' w' :=
 ⟨k.1, by rw [List.foldl_append]; exact k.2.1, h.2.2.1.trans k.2.2.1, h.2.2.2.trans k.2.2.2⟩
set_option maxRecDepth 100000 in
set_option maxHeartbeats 1000000 in
theorem addLongs_fine (gb base n : Nat) (f : Nat -> Value) (vs : List Value) (A0 : Option Addr) (n0 c0 : Nat) (w : World) (hb : w.rowIs gb 59 18 f) (ho : w.ownsRow base 24 1 (f 2) n vs) (hn : n < 300)
  (hgb : gb < base) (hbase : base <= w.heap.size) :
  Calls Tryz.prog 59 #[.pointer (some ⟨gb, 0, none⟩), .slice A0 n0 c0] w fun e w' => AddO gb base 2 n 59 24 f vs (.slice A0 n0 c0) w e w' := by
 obtain ⟨i0, hi0, hz0, hz1, hz2⟩ := info_parts3 infoLLongs
 have h1 := hb.cell (i := 2) (by omega)
 obtain ⟨A, c, hf, hnc, hcm⟩ := own_shape ho
 rw [hf] at h1 ho
 unfold AddO
 have HB := Lib.hid hb
 have hw0 : gb < w.heap.size := hb.lt
 clear hb
 go_enter Tryz.func59, Tryz.ntmps59
 go_wp2_with (at_builtin; refine wpList_append_fine _ rfl (.tmp 14) (.tmp 16) 42 rfl base 24 i0 _ 1 24 Tryz.underlying42 hi0 hz0 hz1 hz2 rfl _ n _ rfl (ho.alloc _) (w.heap.size + 1) _ 1 1 [.slice A0 n0 c0] rfl (Sl.one _ _ _) ?_ ?_ ?_ ?_ ?_ ?_)
 · intro u hu; simp at hu; subst hu; rfl
 · omega
 · unfold maxLen; omega
 · omega
 · simp; omega
 intro v1 w1 hown1 ht1
 have hne : (Value.slice A n c).ownBlock ≠ some gb := fun e => by have := (ho.lt gb e).1; omega
 have hr1 := (HB.out.alloc (.cells #[.slice A0 n0 c0] 24)).of_block (ht1.block (b := gb) (by simp; omega) hne)
 have hc1 := hr1.cell (i := 2) (by omega)
 have hc2 := hr1.frozen 2
 have hbut : But (fun k => k = gb \/ (Value.slice A n c).ownBlock = some k) w w1 := ht1.but ((But.refl _ _).alloc _) (fun k hk _ => .inr hk)
 have hrow : ∀ b, v1.ownBlock = some b -> (Value.slice A n c).ownBlock = some b \/ w.heap.size <= b := fun b hb => by
  rcases ht1 with ⟨e, _⟩ | ⟨e, _⟩
  · exact .inl (by rw [<- e]; exact hb)
  · rw [e] at hb; injection hb with hb; right; rw [<- hb]; simp only [World.size_alloc]; omega
 clear ht1
 obtain ⟨A1, c1, rfl, hn1, hm1⟩ := own_shape hown1
 go_wp2_with fail
 go_end0
 refine ⟨rfl, _, hr1.set 2 (.slice A1 (n + 1) c1), fun k hk => if_neg hk, ?_, ?_, ?_⟩
 ·
  rw [if_pos rfl]
  exact ownsRow_setCell_below hown1 (by show gb < base; exact hgb) _
 · rw [hf]; exact hbut.setCell (.inl rfl) _
 · rw [if_pos rfl, hf]; exact hrow
set_option maxRecDepth 100000 in
theorem addLongs_bag (gb : Nat) (K : Nat -> List Value) (A0 : Option Addr) (n0 c0 : Nat) (w : World) (h : BagS w gb K) :
  Calls Tryz.prog 59 #[.pointer (some ⟨gb, 0, none⟩), .slice A0 n0 c0] w fun e w' => AddB gb K [(2, .slice A0 n0 c0)] w e w' := by
 obtain ⟨f, hr, ho, hf⟩ := h.kind (q := 2) (by unfold Us; omega)
 by_cases hl : (K 2).length < 300
 · exact (addLongs_fine gb (gb + 1) _ f _ A0 n0 c0 w hr ho hl (by omega) hr.lt).mono fun e w' ha => h.added (by unfold Us; omega) hl hr hf ha
 ·
  have h300 : (K 2).length = 300 := by have := h.len 2; omega
  obtain ⟨A, c, hfq, _, _⟩ := own_shape ho
  have hc := hr.cell (i := 2) (by omega)
  rw [hfq, h300] at hc
  have HE := Lib.hid (show BagS w gb ([(2, Value.slice A0 n0 c0)].foldl add1 K) by
   show BagS w gb (add1 K (2, .slice A0 n0 c0))
   rw [add1_full (by show ¬ (K 2).length < 300; omega)]; exact h)
  unfold AddB
  clear h hr ho hf hl h300 hfq
  go_enter Tryz.func59, Tryz.ntmps59
  go_wp2_with fail
  go_end0
  exact ⟨rfl, HE.out, Kp.refl _, Below.refl _ _⟩
set_option maxRecDepth 100000 in
set_option maxHeartbeats 1000000 in
theorem addTexts_fine (gb base n : Nat) (f : Nat -> Value) (vs : List Value) (A0 : Option Addr) (n0 c0 : Nat) (w : World) (hb : w.rowIs gb 59 18 f) (ho : w.ownsRow base 25 1 (f 4) n vs) (hn : n < 300)
  (hgb : gb < base) (hbase : base <= w.heap.size) :
  Calls Tryz.prog 60 #[.pointer (some ⟨gb, 0, none⟩), .slice A0 n0 c0] w fun e w' => AddO gb base 4 n 59 25 f vs (.slice A0 n0 c0) w e w' := by
 obtain ⟨i0, hi0, hz0, hz1, hz2⟩ := info_parts3 infoLTexts
 have h1 := hb.cell (i := 4) (by omega)
 obtain ⟨A, c, hf, hnc, hcm⟩ := own_shape ho
 rw [hf] at h1 ho
 unfold AddO
 have HB := Lib.hid hb
 have hw0 : gb < w.heap.size := hb.lt
 clear hb
 go_enter Tryz.func60, Tryz.ntmps60
 go_wp2_with (at_builtin; refine wpList_append_fine _ rfl (.tmp 14) (.tmp 16) 44 rfl base 25 i0 _ 1 24 Tryz.underlying44 hi0 hz0 hz1 hz2 rfl _ n _ rfl (ho.alloc _) (w.heap.size + 1) _ 1 1 [.slice A0 n0 c0] rfl (Sl.one _ _ _) ?_ ?_ ?_ ?_ ?_ ?_)
 · intro u hu; simp at hu; subst hu; rfl
 · omega
 · unfold maxLen; omega
 · omega
 · simp; omega
 intro v1 w1 hown1 ht1
 have hne : (Value.slice A n c).ownBlock ≠ some gb := fun e => by have := (ho.lt gb e).1; omega
 have hr1 := (HB.out.alloc (.cells #[.slice A0 n0 c0] 25)).of_block (ht1.block (b := gb) (by simp; omega) hne)
 have hc1 := hr1.cell (i := 4) (by omega)
 have hc2 := hr1.frozen 4
 have hbut : But (fun k => k = gb \/ (Value.slice A n c).ownBlock = some k) w w1 := ht1.but ((But.refl _ _).alloc _) (fun k hk _ => .inr hk)
 have hrow : ∀ b, v1.ownBlock = some b -> (Value.slice A n c).ownBlock = some b \/ w.heap.size <= b := fun b hb => by
  rcases ht1 with ⟨e, _⟩ | ⟨e, _⟩
  · exact .inl (by rw [<- e]; exact hb)
  · rw [e] at hb; injection hb with hb; right; rw [<- hb]; simp only [World.size_alloc]; omega
 clear ht1
 obtain ⟨A1, c1, rfl, hn1, hm1⟩ := own_shape hown1
 go_wp2_with fail
 go_end0
 refine ⟨rfl, _, hr1.set 4 (.slice A1 (n + 1) c1), fun k hk => if_neg hk, ?_, ?_, ?_⟩
 ·
  rw [if_pos rfl]
  exact ownsRow_setCell_below hown1 (by show gb < base; exact hgb) _
 · rw [hf]; exact hbut.setCell (.inl rfl) _
 · rw [if_pos rfl, hf]; exact hrow
set_option maxRecDepth 100000 in
theorem addTexts_bag (gb : Nat) (K : Nat -> List Value) (A0 : Option Addr) (n0 c0 : Nat) (w : World) (h : BagS w gb K) :
  Calls Tryz.prog 60 #[.pointer (some ⟨gb, 0, none⟩), .slice A0 n0 c0] w fun e w' => AddB gb K [(4, .slice A0 n0 c0)] w e w' := by
 obtain ⟨f, hr, ho, hf⟩ := h.kind (q := 4) (by unfold Us; omega)
 by_cases hl : (K 4).length < 300
 · exact (addTexts_fine gb (gb + 1) _ f _ A0 n0 c0 w hr ho hl (by omega) hr.lt).mono fun e w' ha => h.added (by unfold Us; omega) hl hr hf ha
 ·
  have h300 : (K 4).length = 300 := by have := h.len 4; omega
  obtain ⟨A, c, hfq, _, _⟩ := own_shape ho
  have hc := hr.cell (i := 4) (by omega)
  rw [hfq, h300] at hc
  have HE := Lib.hid (show BagS w gb ([(4, Value.slice A0 n0 c0)].foldl add1 K) by
   show BagS w gb (add1 K (4, .slice A0 n0 c0))
   rw [add1_full (by show ¬ (K 4).length < 300; omega)]; exact h)
  unfold AddB
  clear h hr ho hf hl h300 hfq
  go_enter Tryz.func60, Tryz.ntmps60
  go_wp2_with fail
  go_end0
  exact ⟨rfl, HE.out, Kp.refl _, Below.refl _ _⟩
set_option maxRecDepth 100000 in
set_option maxHeartbeats 1000000 in
theorem addCos_fine (gb base n : Nat) (f : Nat -> Value) (vs : List Value) (A0 : Option Addr) (n0 c0 : Nat) (w : World) (hb : w.rowIs gb 59 18 f) (ho : w.ownsRow base 82 1 (f 6) n vs) (hn : n < 300)
  (hgb : gb < base) (hbase : base <= w.heap.size) :
  Calls Tryz.prog 143 #[.pointer (some ⟨gb, 0, none⟩), .slice A0 n0 c0] w fun e w' => AddO gb base 6 n 59 82 f vs (.slice A0 n0 c0) w e w' := by
 obtain ⟨i0, hi0, hz0, hz1, hz2⟩ := info_parts3 infoLCos
 have h1 := hb.cell (i := 6) (by omega)
 obtain ⟨A, c, hf, hnc, hcm⟩ := own_shape ho
 rw [hf] at h1 ho
 unfold AddO
 have HB := Lib.hid hb
 have hw0 : gb < w.heap.size := hb.lt
 clear hb
 go_enter Tryz.func143, Tryz.ntmps143
 go_wp2_with (at_builtin; refine wpList_append_fine _ rfl (.tmp 14) (.tmp 16) 46 rfl base 82 i0 _ 1 24 Tryz.underlying46 hi0 hz0 hz1 hz2 rfl _ n _ rfl (ho.alloc _) (w.heap.size + 1) _ 1 1 [.slice A0 n0 c0] rfl (Sl.one _ _ _) ?_ ?_ ?_ ?_ ?_ ?_)
 · intro u hu; simp at hu; subst hu; rfl
 · omega
 · unfold maxLen; omega
 · omega
 · simp; omega
 intro v1 w1 hown1 ht1
 have hne : (Value.slice A n c).ownBlock ≠ some gb := fun e => by have := (ho.lt gb e).1; omega
 have hr1 := (HB.out.alloc (.cells #[.slice A0 n0 c0] 82)).of_block (ht1.block (b := gb) (by simp; omega) hne)
 have hc1 := hr1.cell (i := 6) (by omega)
 have hc2 := hr1.frozen 6
 have hbut : But (fun k => k = gb \/ (Value.slice A n c).ownBlock = some k) w w1 := ht1.but ((But.refl _ _).alloc _) (fun k hk _ => .inr hk)
 have hrow : ∀ b, v1.ownBlock = some b -> (Value.slice A n c).ownBlock = some b \/ w.heap.size <= b := fun b hb => by
  rcases ht1 with ⟨e, _⟩ | ⟨e, _⟩
  · exact .inl (by rw [<- e]; exact hb)
  · rw [e] at hb; injection hb with hb; right; rw [<- hb]; simp only [World.size_alloc]; omega
 clear ht1
 obtain ⟨A1, c1, rfl, hn1, hm1⟩ := own_shape hown1
 go_wp2_with fail
 go_end0
 refine ⟨rfl, _, hr1.set 6 (.slice A1 (n + 1) c1), fun k hk => if_neg hk, ?_, ?_, ?_⟩
 ·
  rw [if_pos rfl]
  exact ownsRow_setCell_below hown1 (by show gb < base; exact hgb) _
 · rw [hf]; exact hbut.setCell (.inl rfl) _
 · rw [if_pos rfl, hf]; exact hrow
set_option maxRecDepth 100000 in
theorem addCos_bag (gb : Nat) (K : Nat -> List Value) (A0 : Option Addr) (n0 c0 : Nat) (w : World) (h : BagS w gb K) :
  Calls Tryz.prog 143 #[.pointer (some ⟨gb, 0, none⟩), .slice A0 n0 c0] w fun e w' => AddB gb K [(6, .slice A0 n0 c0)] w e w' := by
 obtain ⟨f, hr, ho, hf⟩ := h.kind (q := 6) (by unfold Us; omega)
 by_cases hl : (K 6).length < 300
 · exact (addCos_fine gb (gb + 1) _ f _ A0 n0 c0 w hr ho hl (by omega) hr.lt).mono fun e w' ha => h.added (by unfold Us; omega) hl hr hf ha
 ·
  have h300 : (K 6).length = 300 := by have := h.len 6; omega
  obtain ⟨A, c, hfq, _, _⟩ := own_shape ho
  have hc := hr.cell (i := 6) (by omega)
  rw [hfq, h300] at hc
  have HE := Lib.hid (show BagS w gb ([(6, Value.slice A0 n0 c0)].foldl add1 K) by
   show BagS w gb (add1 K (6, .slice A0 n0 c0))
   rw [add1_full (by show ¬ (K 6).length < 300; omega)]; exact h)
  unfold AddB
  clear h hr ho hf hl h300 hfq
  go_enter Tryz.func143, Tryz.ntmps143
  go_wp2_with fail
  go_end0
  exact ⟨rfl, HE.out, Kp.refl _, Below.refl _ _⟩
set_option maxRecDepth 100000 in
set_option maxHeartbeats 1000000 in
theorem addIns_fine (gb base n : Nat) (f : Nat -> Value) (vs : List Value) (A0 : Option Addr) (n0 c0 : Nat) (w : World) (hb : w.rowIs gb 59 18 f) (ho : w.ownsRow base 88 1 (f 9) n vs) (hn : n < 300)
  (hgb : gb < base) (hbase : base <= w.heap.size) :
  Calls Tryz.prog 142 #[.pointer (some ⟨gb, 0, none⟩), .slice A0 n0 c0] w fun e w' => AddO gb base 9 n 59 88 f vs (.slice A0 n0 c0) w e w' := by
 obtain ⟨i0, hi0, hz0, hz1, hz2⟩ := info_parts3 infoLIns
 have h1 := hb.cell (i := 9) (by omega)
 obtain ⟨A, c, hf, hnc, hcm⟩ := own_shape ho
 rw [hf] at h1 ho
 unfold AddO
 have HB := Lib.hid hb
 have hw0 : gb < w.heap.size := hb.lt
 clear hb
 go_enter Tryz.func142, Tryz.ntmps142
 go_wp2_with (at_builtin; refine wpList_append_fine _ rfl (.tmp 14) (.tmp 16) 49 rfl base 88 i0 _ 1 24 Tryz.underlying49 hi0 hz0 hz1 hz2 rfl _ n _ rfl (ho.alloc _) (w.heap.size + 1) _ 1 1 [.slice A0 n0 c0] rfl (Sl.one _ _ _) ?_ ?_ ?_ ?_ ?_ ?_)
 · intro u hu; simp at hu; subst hu; rfl
 · omega
 · unfold maxLen; omega
 · omega
 · simp; omega
 intro v1 w1 hown1 ht1
 have hne : (Value.slice A n c).ownBlock ≠ some gb := fun e => by have := (ho.lt gb e).1; omega
 have hr1 := (HB.out.alloc (.cells #[.slice A0 n0 c0] 88)).of_block (ht1.block (b := gb) (by simp; omega) hne)
 have hc1 := hr1.cell (i := 9) (by omega)
 have hc2 := hr1.frozen 9
 have hbut : But (fun k => k = gb \/ (Value.slice A n c).ownBlock = some k) w w1 := ht1.but ((But.refl _ _).alloc _) (fun k hk _ => .inr hk)
 have hrow : ∀ b, v1.ownBlock = some b -> (Value.slice A n c).ownBlock = some b \/ w.heap.size <= b := fun b hb => by
  rcases ht1 with ⟨e, _⟩ | ⟨e, _⟩
  · exact .inl (by rw [<- e]; exact hb)
  · rw [e] at hb; injection hb with hb; right; rw [<- hb]; simp only [World.size_alloc]; omega
 clear ht1
 obtain ⟨A1, c1, rfl, hn1, hm1⟩ := own_shape hown1
 go_wp2_with fail
 go_end0
 refine ⟨rfl, _, hr1.set 9 (.slice A1 (n + 1) c1), fun k hk => if_neg hk, ?_, ?_, ?_⟩
 ·
  rw [if_pos rfl]
  exact ownsRow_setCell_below hown1 (by show gb < base; exact hgb) _
 · rw [hf]; exact hbut.setCell (.inl rfl) _
 · rw [if_pos rfl, hf]; exact hrow
set_option maxRecDepth 100000 in
theorem addIns_bag (gb : Nat) (K : Nat -> List Value) (A0 : Option Addr) (n0 c0 : Nat) (w : World) (h : BagS w gb K) :
  Calls Tryz.prog 142 #[.pointer (some ⟨gb, 0, none⟩), .slice A0 n0 c0] w fun e w' => AddB gb K [(9, .slice A0 n0 c0)] w e w' := by
 obtain ⟨f, hr, ho, hf⟩ := h.kind (q := 9) (by unfold Us; omega)
 by_cases hl : (K 9).length < 300
 · exact (addIns_fine gb (gb + 1) _ f _ A0 n0 c0 w hr ho hl (by omega) hr.lt).mono fun e w' ha => h.added (by unfold Us; omega) hl hr hf ha
 ·
  have h300 : (K 9).length = 300 := by have := h.len 9; omega
  obtain ⟨A, c, hfq, _, _⟩ := own_shape ho
  have hc := hr.cell (i := 9) (by omega)
  rw [hfq, h300] at hc
  have HE := Lib.hid (show BagS w gb ([(9, Value.slice A0 n0 c0)].foldl add1 K) by
   show BagS w gb (add1 K (9, .slice A0 n0 c0))
   rw [add1_full (by show ¬ (K 9).length < 300; omega)]; exact h)
  unfold AddB
  clear h hr ho hf hl h300 hfq
  go_enter Tryz.func142, Tryz.ntmps142
  go_wp2_with fail
  go_end0
  exact ⟨rfl, HE.out, Kp.refl _, Below.refl _ _⟩
set_option maxRecDepth 100000 in
theorem addFunction_bag (gb : Nat) (K : Nat -> List Value) (p r : ByteArray) (A1 A2 : Option Addr) (n1 c1 n2 c2 : Nat) (w : World) (h : BagS w gb K) :
  Calls Tryz.prog 110 #[.pointer (some ⟨gb, 0, none⟩), .agg #[.slice A1 n1 c1, .string p, .string r, .slice A2 n2 c2]] w fun e w' => AddB gb K [(4, .slice A1 n1 c1), (9, .slice A2 n2 c2)] w e w' := by
 obtain ⟨bx, hbx⟩ : ∃ x, w.heap.size = x := ⟨_, rfl⟩
 obtain ⟨W1, hW1⟩ : ∃ X, w.alloc (.cells #[.slice A1 n1 c1, .string p, .string r, .slice A2 n2 c2] 90) = X := ⟨_, rfl⟩
 have hb1 : Below w.heap.size w W1 := by rw [<- hW1]; exact bal b0 _
 have k1 : Blk W1 bx 90 #[.slice A1 n1 c1, .string p, .string r, .slice A2 n2 c2] := by rw [<- hW1, <- hbx]; exact Blk.new w _ _
 have HK0 := Lib.hid (show BagS W1 gb K /\ Blk W1 bx 90 #[.slice A1 n1 c1, .string p, .string r, .slice A2 n2 c2] /\ Kp w W1 /\ Below gb w W1 from ⟨h.grow hb1, k1, Kp.of_below hb1, hb1.mono (Nat.le_of_lt h.lt)⟩)
 have x0 : W1.cell? ⟨bx, 0, none⟩ = some (.slice A1 n1 c1) := (k1.cell 0).trans rfl
 clear h hb1 k1
 unfold AddB
 go_enter Tryz.func110, Tryz.ntmps110
 go_upto_region 1 with fail
 clear hW1 hbx
 go_wp2_with fail
 (refine (addTexts_bag gb K _ _ _ _ HK0.out.1).mono ?_); rintro e w2 ⟨rfl, ha, hk, hb⟩
 have HK1 := Lib.hid (show BagS w2 gb ([(4, .slice A1 n1 c1)].foldl add1 K) /\ Blk w2 bx 90 #[.slice A1 n1 c1, .string p, .string r, .slice A2 n2 c2] /\ Kp w w2 /\ Below gb w w2 from ⟨ha, hk.blk_ HK0.out.2.1 (by decide), HK0.out.2.2.1.trans hk, HK0.out.2.2.2.trans hb⟩)
 have x1 : w2.cell? ⟨bx, 3, none⟩ = some (.slice A2 n2 c2) := (HK1.out.2.1.cell 3).trans rfl
 clear ha hk hb x0
 go_wp2_with fail
 (refine (addIns_bag gb ([(4, .slice A1 n1 c1)].foldl add1 K) _ _ _ _ HK1.out.1).mono ?_); rintro e w3 ⟨rfl, ha, hk, hb⟩
 have HF := Lib.hid (show _ /\ _ /\ _ from ⟨ha, HK1.out.2.2.1.trans hk, HK1.out.2.2.2.trans hb⟩)
 clear ha hk hb
 go_wp2_with fail
 go_end0
 exact ⟨rfl, HF.out⟩
set_option maxRecDepth 100000 in
theorem addWait_bag (gb : Nat) (K : Nat -> List Value) (p r : ByteArray) (A1 : Option Addr) (n1 c1 : Nat) (w : World) (h : BagS w gb K) :
  Calls Tryz.prog 111 #[.pointer (some ⟨gb, 0, none⟩), .agg #[.string p, .string r, .slice A1 n1 c1]] w fun e w' => AddB gb K [(6, .slice A1 n1 c1)] w e w' := by
 obtain ⟨bx, hbx⟩ : ∃ x, w.heap.size = x := ⟨_, rfl⟩
 obtain ⟨W1, hW1⟩ : ∃ X, w.alloc (.cells #[.string p, .string r, .slice A1 n1 c1] 84) = X := ⟨_, rfl⟩
 have hb1 : Below w.heap.size w W1 := by rw [<- hW1]; exact bal b0 _
 have k1 : Blk W1 bx 84 #[.string p, .string r, .slice A1 n1 c1] := by rw [<- hW1, <- hbx]; exact Blk.new w _ _
 have HK0 := Lib.hid (show BagS W1 gb K /\ Blk W1 bx 84 #[.string p, .string r, .slice A1 n1 c1] /\ Kp w W1 /\ Below gb w W1 from ⟨h.grow hb1, k1, Kp.of_below hb1, hb1.mono (Nat.le_of_lt h.lt)⟩)
 have x0 : W1.cell? ⟨bx, 2, none⟩ = some (.slice A1 n1 c1) := (k1.cell 2).trans rfl
 clear h hb1 k1
 unfold AddB
 go_enter Tryz.func111, Tryz.ntmps111
 go_upto_region 1 with fail
 clear hW1 hbx
 go_wp2_with fail
 (refine (addCos_bag gb K _ _ _ _ HK0.out.1).mono ?_); rintro e w2 ⟨rfl, ha, hk, hb⟩
 have HF := Lib.hid (show _ /\ _ /\ _ from ⟨ha, HK0.out.2.2.1.trans hk, HK0.out.2.2.2.trans hb⟩)
 clear ha hk hb
 go_wp2_with fail
 go_end0
 exact ⟨rfl, HF.out⟩
def oFunctions (g : FuL) : List (Nat × Value) := [(4, g.ev), (9, g.cv)]
set_option maxRecDepth 100000 in
set_option maxHeartbeats 2000000 in
theorem addFunctions_bag (gb : Nat) (K : Nat -> List Value) (L : List FuL) (N : Nat) (A0 : Option Addr) (c0 : Nat) (w : World) (h : BagS w gb K) (hN : L.length = N) (hNb : N <= 1073741824) (hA : Sl w gb 4 A0 N (L.flatMap FuL.cells))
  (hS : ∀ g ∈ L, ∃ A1 n1 c1 A2 n2 c2, g.ev = .slice A1 n1 c1 /\ g.cv = .slice A2 n2 c2) :
  Calls Tryz.prog 57 #[.pointer (some ⟨gb, 0, none⟩), .slice A0 N c0] w fun e w' => AddB gb K ((15, .slice A0 N c0) :: (L.take 300).flatMap oFunctions) w e w' := by
 obtain ⟨f, hr, ho, hf⟩ := h.kind (q := 15) (by unfold Us; omega)
 have HA := Lib.hid (And.intro hA hN)
 have HS := Lib.hid hS
 have hlt0 := h.lt
 clear hA hN hS
 unfold AddB
 by_cases hl : (K 15).length < 300
 ·
  obtain ⟨i0, hi0, hz0, hz1, hz2⟩ := info_parts3 infoLFunctions
  have h1 := hr.cell (i := 15) (by omega)
  obtain ⟨base, hbase⟩ : ∃ b, gb + 1 = b := ⟨_, rfl⟩
  have hbs : base <= w.heap.size := by omega
  have hgb : gb < base := by omega
  obtain ⟨n, hn⟩ : ∃ n, (K 15).length = n := ⟨_, rfl⟩
  obtain ⟨vs, hvs⟩ : ∃ vs, K 15 = vs := ⟨_, rfl⟩
  obtain ⟨n0, hn0⟩ : ∃ x, N = x := ⟨_, rfl⟩
  have HADD := Lib.hid (fun e w' (ha : AddO gb (gb + 1) 15 (K 15).length 59 (TLof 15) f (K 15) (.slice A0 N c0) w e w') => h.added (by unfold Us; omega) hl hr hf ha)
  rw [hn, hvs, hbase, hn0] at HADD
  have HN0 := Lib.hid hn0
  rw [hn, hbase] at ho
  rw [hvs] at ho
  rw [hn] at hl
  obtain ⟨A, c, hfq, hnc, hcm⟩ := own_shape ho
  rw [hfq] at h1 ho
  have HB := Lib.hid hr
  have hw0 : gb < w.heap.size := hr.lt
  have ho : w.ownsRow base 22 1 (.slice A n c) n vs := ho
  have HFQ := Lib.hid hfq
  clear h hr hf hn hvs hbase hfq hn0
  go_enter Tryz.func57, Tryz.ntmps57
  go_wp2_with (at_builtin; refine wpList_append_fine _ rfl (.tmp 15) (.tmp 17) 55 rfl base 22 i0 _ 1 24 Tryz.underlying55 hi0 hz0 hz1 hz2 rfl _ n _ rfl (ho.alloc _) (w.heap.size + 1) _ 1 1 [.slice A0 N c0] rfl (Sl.one _ _ _) ?_ ?_ ?_ ?_ ?_ ?_)
  · intro u hu; simp at hu; subst hu; rfl
  · omega
  · unfold maxLen; omega
  · omega
  · simp; omega
  intro v1 w1 hown1 ht1
  have hne : (Value.slice A n c).ownBlock ≠ some gb := fun e => by have := (ho.lt gb e).1; omega
  have hr1 := (HB.out.alloc (.cells #[.slice A0 N c0] 22)).of_block (ht1.block (b := gb) (by simp; omega) hne)
  have hc1 := hr1.cell (i := 15) (by omega)
  have hc2 := hr1.frozen 15
  have hbut : But (fun k => k = gb \/ (Value.slice A n c).ownBlock = some k) w w1 := ht1.but ((But.refl _ _).alloc _) (fun k hk _ => .inr hk)
  have hrow : ∀ b, v1.ownBlock = some b -> (Value.slice A n c).ownBlock = some b \/ w.heap.size <= b := fun b hb => by
   rcases ht1 with ⟨e, _⟩ | ⟨e, _⟩
   · exact .inl (by rw [<- e]; exact hb)
   · rw [e] at hb; injection hb with hb; right; rw [<- hb]; simp only [World.size_alloc]; omega
  clear ht1
  obtain ⟨A1, c1, rfl, hn1, hm1⟩ := own_shape hown1
  have HAB := Lib.hid (HADD.out (.returned (.tuple #[])) (w1.setCell ⟨gb, 15, none⟩ (.slice A1 (n + 1) c1)) (by
   rw [<- HN0.out]
   refine ⟨rfl, _, hr1.set 15 (.slice A1 (n + 1) c1), fun k hk => if_neg hk, ?_, ?_, ?_⟩
   ·
    rw [if_pos rfl]
    exact ownsRow_setCell_below hown1 (by show gb < base; exact hgb) _
   · rw [HFQ.out]; exact hbut.setCell (.inl rfl) _
   · rw [if_pos rfl, HFQ.out]; exact hrow))
  clear HADD hown1 hbut hrow hr1 ho HB HFQ h1 hi0 hz0 hz1 hz2
  go_upto_region 2 with fail
  obtain ⟨W1, hW1⟩ : ∃ X, w1.setCell ⟨gb, 15, none⟩ (.slice A1 (n + 1) c1) = X := ⟨_, rfl⟩
  rw [hW1] at HAB ⊢
  have HS1 := Lib.hid (show BagS W1 gb ([((15 : Nat), Value.slice A0 N c0)].foldl add1 K) /\ Kp w W1 /\ Below gb w W1 from by have := HAB.out.2; rw [<- HN0.out] at this; exact this)
  clear hW1 HAB hc1 hc2 HN0
  go_wp2_with fail
  go_loopg [4] N (fun gg i wr => ∃ k : Nat, k <= N /\ k <= 300 /\ gg = N - k /\ i = .int .i64 k /\ Hid (BagS wr gb ((((15 : Nat), Value.slice A0 N c0) :: (L.take k).flatMap oFunctions).foldl add1 K) /\ Kp w wr /\ Below gb w wr))
  case atStart => exact ⟨0, by omega, by omega, rfl, rfl, Lib.hid HS1.out⟩
  case round =>
   obtain ⟨k, hk, hk3, rfl, rfl, HR⟩ := hrel
   by_cases h2 : k < N
   ·
    by_cases h3 : k < 300
    ·
     obtain ⟨x, hx⟩ : ∃ x, L[k]? = some x := ⟨_, List.getElem?_eq_getElem (by rw [HA.out.2]; exact h2)⟩
     have hm := List.mem_of_getElem? hx
     obtain ⟨b, o, rfl, hb1, hc1⟩ := (HA.out.1.below HR.out.2.2).at_ (by omega)
     have kc : ∀ i v, (FuL.cells x)[i]? = some v -> i < 4 -> wr.cell? ⟨b, o + k * 4 + i, none⟩ = some v := fun i v hv hi => by
      rw [Nat.add_assoc]
      exact hc1 _ _ (by rw [flat_at FuL.cells 4 (fun _ => rfl) _ _ _ _ hx hi]; exact hv)
     obtain ⟨A1, n1, c1, A2, n2, c2, ev, cv⟩ := HS.out x hm
     have d0 : wr.cell? ⟨b, o + k * 4, none⟩ = some (.slice A1 n1 c1) := kc 0 _ (by show some x.ev = _; rw [ev]) (by decide)
     have d1 : wr.cell? ⟨b, o + k * 4 + 1, none⟩ = some (.string ⟨x.f.param.toArray⟩) := kc 1 _ rfl (by decide)
     have d2 : wr.cell? ⟨b, o + k * 4 + 2, none⟩ = some (.string ⟨x.f.res.toArray⟩) := kc 2 _ rfl (by decide)
     have d3 : wr.cell? ⟨b, o + k * 4 + 3, none⟩ = some (.slice A2 n2 c2) := kc 3 _ (by show some x.cv = _; rw [cv]) (by decide)
     have HTK := Lib.hid (show (L.take (k + 1)).flatMap oFunctions = (L.take k).flatMap oFunctions ++ oFunctions x by rw [List.take_add_one, hx]; simp)
     have HOX := Lib.hid (show oFunctions x = [(4, .slice A1 n1 c1), (9, .slice A2 n2 c2)] by unfold oFunctions; rw [ev, cv])
     clear kc hc1 hb1 hx hm ev cv
     go_wp2_with fail
     (refine (addFunction_bag gb _ ⟨x.f.param.toArray⟩ ⟨x.f.res.toArray⟩ A1 A2 n1 c1 n2 c2 wr HR.out.1).mono ?_); rintro e w3 ⟨rfl, ha, hkp, hb3⟩
     have HR3 := Lib.hid (show BagS w3 gb ((((15 : Nat), Value.slice (some ⟨b, o, none⟩) N c0) :: (L.take (k + 1)).flatMap oFunctions).foldl add1 K) /\ Kp w w3 /\ Below gb w w3 from ⟨by rw [HTK.out, HOX.out, <- List.cons_append, List.foldl_append]; exact ha, HR.out.2.1.trans hkp, HR.out.2.2.trans hb3⟩)
     clear ha hkp hb3
     go_wp2_with fail
     go_roundg (N - (k + 1))
     case measure => omega
     case rel => exact ⟨k + 1, by omega, by omega, rfl, by go_num, Lib.hid HR3.out⟩
    ·
     obtain rfl : k = 300 := by omega
     go_wp2_with fail
     go_end0
     exact ⟨rfl, HR.out⟩
   ·
    obtain rfl : N = k := by omega
    have HE := Lib.hid (show (L.take 300).flatMap oFunctions = (L.take N).flatMap oFunctions by rw [List.take_of_length_le (by rw [HA.out.2]; omega), List.take_of_length_le (by rw [HA.out.2]; omega)])
    go_wp2_with fail
    go_end0
    exact ⟨rfl, by rw [HE.out]; exact HR.out⟩
 ·
  have h300 : (K 15).length = 300 := by have := h.len 15; omega
  obtain ⟨A, c, hfq, _, _⟩ := own_shape ho
  have hc := hr.cell (i := 15) (by omega)
  rw [hfq, h300] at hc
  have HS1 := Lib.hid (show BagS w gb ([((15 : Nat), Value.slice A0 N c0)].foldl add1 K) /\ Kp w w /\ Below gb w w from ⟨by
   show BagS w gb (add1 K (15, .slice A0 N c0))
   rw [add1_full (by show ¬ (K 15).length < 300; omega)]; exact h, Kp.refl _, Below.refl _ _⟩)
  clear h hr ho hf hl h300 hfq
  go_enter Tryz.func57, Tryz.ntmps57
  go_wp2_with fail
  go_loopg [4] N (fun gg i wr => ∃ k : Nat, k <= N /\ k <= 300 /\ gg = N - k /\ i = .int .i64 k /\ Hid (BagS wr gb ((((15 : Nat), Value.slice A0 N c0) :: (L.take k).flatMap oFunctions).foldl add1 K) /\ Kp w wr /\ Below gb w wr))
  case atStart => exact ⟨0, by omega, by omega, rfl, rfl, Lib.hid HS1.out⟩
  case round =>
   obtain ⟨k, hk, hk3, rfl, rfl, HR⟩ := hrel
   by_cases h2 : k < N
   ·
    by_cases h3 : k < 300
    ·
     obtain ⟨x, hx⟩ : ∃ x, L[k]? = some x := ⟨_, List.getElem?_eq_getElem (by rw [HA.out.2]; exact h2)⟩
     have hm := List.mem_of_getElem? hx
     obtain ⟨b, o, rfl, hb1, hc1⟩ := (HA.out.1.below HR.out.2.2).at_ (by omega)
     have kc : ∀ i v, (FuL.cells x)[i]? = some v -> i < 4 -> wr.cell? ⟨b, o + k * 4 + i, none⟩ = some v := fun i v hv hi => by
      rw [Nat.add_assoc]
      exact hc1 _ _ (by rw [flat_at FuL.cells 4 (fun _ => rfl) _ _ _ _ hx hi]; exact hv)
     obtain ⟨A1, n1, c1, A2, n2, c2, ev, cv⟩ := HS.out x hm
     have d0 : wr.cell? ⟨b, o + k * 4, none⟩ = some (.slice A1 n1 c1) := kc 0 _ (by show some x.ev = _; rw [ev]) (by decide)
     have d1 : wr.cell? ⟨b, o + k * 4 + 1, none⟩ = some (.string ⟨x.f.param.toArray⟩) := kc 1 _ rfl (by decide)
     have d2 : wr.cell? ⟨b, o + k * 4 + 2, none⟩ = some (.string ⟨x.f.res.toArray⟩) := kc 2 _ rfl (by decide)
     have d3 : wr.cell? ⟨b, o + k * 4 + 3, none⟩ = some (.slice A2 n2 c2) := kc 3 _ (by show some x.cv = _; rw [cv]) (by decide)
     have HTK := Lib.hid (show (L.take (k + 1)).flatMap oFunctions = (L.take k).flatMap oFunctions ++ oFunctions x by rw [List.take_add_one, hx]; simp)
     have HOX := Lib.hid (show oFunctions x = [(4, .slice A1 n1 c1), (9, .slice A2 n2 c2)] by unfold oFunctions; rw [ev, cv])
     clear kc hc1 hb1 hx hm ev cv
     go_wp2_with fail
     (refine (addFunction_bag gb _ ⟨x.f.param.toArray⟩ ⟨x.f.res.toArray⟩ A1 A2 n1 c1 n2 c2 wr HR.out.1).mono ?_); rintro e w3 ⟨rfl, ha, hkp, hb3⟩
     have HR3 := Lib.hid (show BagS w3 gb ((((15 : Nat), Value.slice (some ⟨b, o, none⟩) N c0) :: (L.take (k + 1)).flatMap oFunctions).foldl add1 K) /\ Kp w w3 /\ Below gb w w3 from ⟨by rw [HTK.out, HOX.out, <- List.cons_append, List.foldl_append]; exact ha, HR.out.2.1.trans hkp, HR.out.2.2.trans hb3⟩)
     clear ha hkp hb3
     go_wp2_with fail
     go_roundg (N - (k + 1))
     case measure => omega
     case rel => exact ⟨k + 1, by omega, by omega, rfl, by go_num, Lib.hid HR3.out⟩
    ·
     obtain rfl : k = 300 := by omega
     go_wp2_with fail
     go_end0
     exact ⟨rfl, HR.out⟩
   ·
    obtain rfl : N = k := by omega
    have HE := Lib.hid (show (L.take 300).flatMap oFunctions = (L.take N).flatMap oFunctions by rw [List.take_of_length_le (by rw [HA.out.2]; omega), List.take_of_length_le (by rw [HA.out.2]; omega)])
    go_wp2_with fail
    go_end0
    exact ⟨rfl, by rw [HE.out]; exact HR.out⟩
def oWaits (g : WtL) : List (Nat × Value) := [(6, g.cv)]
set_option maxRecDepth 100000 in
set_option maxHeartbeats 2000000 in
theorem addWaits_bag (gb : Nat) (K : Nat -> List Value) (L : List WtL) (N : Nat) (A0 : Option Addr) (c0 : Nat) (w : World) (h : BagS w gb K) (hN : L.length = N) (hNb : N <= 1073741824) (hA : Sl w gb 3 A0 N (L.flatMap WtL.cells))
  (hS : ∀ g ∈ L, ∃ A1 n1 c1, g.cv = .slice A1 n1 c1) :
  Calls Tryz.prog 58 #[.pointer (some ⟨gb, 0, none⟩), .slice A0 N c0] w fun e w' => AddB gb K ((16, .slice A0 N c0) :: (L.take 300).flatMap oWaits) w e w' := by
 obtain ⟨f, hr, ho, hf⟩ := h.kind (q := 16) (by unfold Us; omega)
 have HA := Lib.hid (And.intro hA hN)
 have HS := Lib.hid hS
 have hlt0 := h.lt
 clear hA hN hS
 unfold AddB
 by_cases hl : (K 16).length < 300
 ·
  obtain ⟨i0, hi0, hz0, hz1, hz2⟩ := info_parts3 infoLWaits
  have h1 := hr.cell (i := 16) (by omega)
  obtain ⟨base, hbase⟩ : ∃ b, gb + 1 = b := ⟨_, rfl⟩
  have hbs : base <= w.heap.size := by omega
  have hgb : gb < base := by omega
  obtain ⟨n, hn⟩ : ∃ n, (K 16).length = n := ⟨_, rfl⟩
  obtain ⟨vs, hvs⟩ : ∃ vs, K 16 = vs := ⟨_, rfl⟩
  obtain ⟨n0, hn0⟩ : ∃ x, N = x := ⟨_, rfl⟩
  have HADD := Lib.hid (fun e w' (ha : AddO gb (gb + 1) 16 (K 16).length 59 (TLof 16) f (K 16) (.slice A0 N c0) w e w') => h.added (by unfold Us; omega) hl hr hf ha)
  rw [hn, hvs, hbase, hn0] at HADD
  have HN0 := Lib.hid hn0
  rw [hn, hbase] at ho
  rw [hvs] at ho
  rw [hn] at hl
  obtain ⟨A, c, hfq, hnc, hcm⟩ := own_shape ho
  rw [hfq] at h1 ho
  have HB := Lib.hid hr
  have hw0 : gb < w.heap.size := hr.lt
  have ho : w.ownsRow base 23 1 (.slice A n c) n vs := ho
  have HFQ := Lib.hid hfq
  clear h hr hf hn hvs hbase hfq hn0
  go_enter Tryz.func58, Tryz.ntmps58
  go_wp2_with (at_builtin; refine wpList_append_fine _ rfl (.tmp 15) (.tmp 17) 56 rfl base 23 i0 _ 1 24 Tryz.underlying56 hi0 hz0 hz1 hz2 rfl _ n _ rfl (ho.alloc _) (w.heap.size + 1) _ 1 1 [.slice A0 N c0] rfl (Sl.one _ _ _) ?_ ?_ ?_ ?_ ?_ ?_)
  · intro u hu; simp at hu; subst hu; rfl
  · omega
  · unfold maxLen; omega
  · omega
  · simp; omega
  intro v1 w1 hown1 ht1
  have hne : (Value.slice A n c).ownBlock ≠ some gb := fun e => by have := (ho.lt gb e).1; omega
  have hr1 := (HB.out.alloc (.cells #[.slice A0 N c0] 23)).of_block (ht1.block (b := gb) (by simp; omega) hne)
  have hc1 := hr1.cell (i := 16) (by omega)
  have hc2 := hr1.frozen 16
  have hbut : But (fun k => k = gb \/ (Value.slice A n c).ownBlock = some k) w w1 := ht1.but ((But.refl _ _).alloc _) (fun k hk _ => .inr hk)
  have hrow : ∀ b, v1.ownBlock = some b -> (Value.slice A n c).ownBlock = some b \/ w.heap.size <= b := fun b hb => by
   rcases ht1 with ⟨e, _⟩ | ⟨e, _⟩
   · exact .inl (by rw [<- e]; exact hb)
   · rw [e] at hb; injection hb with hb; right; rw [<- hb]; simp only [World.size_alloc]; omega
  clear ht1
  obtain ⟨A1, c1, rfl, hn1, hm1⟩ := own_shape hown1
  have HAB := Lib.hid (HADD.out (.returned (.tuple #[])) (w1.setCell ⟨gb, 16, none⟩ (.slice A1 (n + 1) c1)) (by
   rw [<- HN0.out]
   refine ⟨rfl, _, hr1.set 16 (.slice A1 (n + 1) c1), fun k hk => if_neg hk, ?_, ?_, ?_⟩
   ·
    rw [if_pos rfl]
    exact ownsRow_setCell_below hown1 (by show gb < base; exact hgb) _
   · rw [HFQ.out]; exact hbut.setCell (.inl rfl) _
   · rw [if_pos rfl, HFQ.out]; exact hrow))
  clear HADD hown1 hbut hrow hr1 ho HB HFQ h1 hi0 hz0 hz1 hz2
  go_upto_region 2 with fail
  obtain ⟨W1, hW1⟩ : ∃ X, w1.setCell ⟨gb, 16, none⟩ (.slice A1 (n + 1) c1) = X := ⟨_, rfl⟩
  rw [hW1] at HAB ⊢
  have HS1 := Lib.hid (show BagS W1 gb ([((16 : Nat), Value.slice A0 N c0)].foldl add1 K) /\ Kp w W1 /\ Below gb w W1 from by have := HAB.out.2; rw [<- HN0.out] at this; exact this)
  clear hW1 HAB hc1 hc2 HN0
  go_wp2_with fail
  go_loopg [4] N (fun gg i wr => ∃ k : Nat, k <= N /\ k <= 300 /\ gg = N - k /\ i = .int .i64 k /\ Hid (BagS wr gb ((((16 : Nat), Value.slice A0 N c0) :: (L.take k).flatMap oWaits).foldl add1 K) /\ Kp w wr /\ Below gb w wr))
  case atStart => exact ⟨0, by omega, by omega, rfl, rfl, Lib.hid HS1.out⟩
  case round =>
   obtain ⟨k, hk, hk3, rfl, rfl, HR⟩ := hrel
   by_cases h2 : k < N
   ·
    by_cases h3 : k < 300
    ·
     obtain ⟨x, hx⟩ : ∃ x, L[k]? = some x := ⟨_, List.getElem?_eq_getElem (by rw [HA.out.2]; exact h2)⟩
     have hm := List.mem_of_getElem? hx
     obtain ⟨b, o, rfl, hb1, hc1⟩ := (HA.out.1.below HR.out.2.2).at_ (by omega)
     have kc : ∀ i v, (WtL.cells x)[i]? = some v -> i < 3 -> wr.cell? ⟨b, o + k * 3 + i, none⟩ = some v := fun i v hv hi => by
      rw [Nat.add_assoc]
      exact hc1 _ _ (by rw [flat_at WtL.cells 3 (fun _ => rfl) _ _ _ _ hx hi]; exact hv)
     obtain ⟨A1, n1, c1, cv⟩ := HS.out x hm
     have d0 : wr.cell? ⟨b, o + k * 3, none⟩ = some (.string ⟨x.w.f.toArray⟩) := kc 0 _ rfl (by decide)
     have d1 : wr.cell? ⟨b, o + k * 3 + 1, none⟩ = some (.string ⟨x.w.t.toArray⟩) := kc 1 _ rfl (by decide)
     have d2 : wr.cell? ⟨b, o + k * 3 + 2, none⟩ = some (.slice A1 n1 c1) := kc 2 _ (by show some x.cv = _; rw [cv]) (by decide)
     have HTK := Lib.hid (show (L.take (k + 1)).flatMap oWaits = (L.take k).flatMap oWaits ++ oWaits x by rw [List.take_add_one, hx]; simp)
     have HOX := Lib.hid (show oWaits x = [(6, .slice A1 n1 c1)] by unfold oWaits; rw [cv])
     clear kc hc1 hb1 hx hm cv
     go_wp2_with fail
     (refine (addWait_bag gb _ ⟨x.w.f.toArray⟩ ⟨x.w.t.toArray⟩ A1 n1 c1 wr HR.out.1).mono ?_); rintro e w3 ⟨rfl, ha, hkp, hb3⟩
     have HR3 := Lib.hid (show BagS w3 gb ((((16 : Nat), Value.slice (some ⟨b, o, none⟩) N c0) :: (L.take (k + 1)).flatMap oWaits).foldl add1 K) /\ Kp w w3 /\ Below gb w w3 from ⟨by rw [HTK.out, HOX.out, <- List.cons_append, List.foldl_append]; exact ha, HR.out.2.1.trans hkp, HR.out.2.2.trans hb3⟩)
     clear ha hkp hb3
     go_wp2_with fail
     go_roundg (N - (k + 1))
     case measure => omega
     case rel => exact ⟨k + 1, by omega, by omega, rfl, by go_num, Lib.hid HR3.out⟩
    ·
     obtain rfl : k = 300 := by omega
     go_wp2_with fail
     go_end0
     exact ⟨rfl, HR.out⟩
   ·
    obtain rfl : N = k := by omega
    have HE := Lib.hid (show (L.take 300).flatMap oWaits = (L.take N).flatMap oWaits by rw [List.take_of_length_le (by rw [HA.out.2]; omega), List.take_of_length_le (by rw [HA.out.2]; omega)])
    go_wp2_with fail
    go_end0
    exact ⟨rfl, by rw [HE.out]; exact HR.out⟩
 ·
  have h300 : (K 16).length = 300 := by have := h.len 16; omega
  obtain ⟨A, c, hfq, _, _⟩ := own_shape ho
  have hc := hr.cell (i := 16) (by omega)
  rw [hfq, h300] at hc
  have HS1 := Lib.hid (show BagS w gb ([((16 : Nat), Value.slice A0 N c0)].foldl add1 K) /\ Kp w w /\ Below gb w w from ⟨by
   show BagS w gb (add1 K (16, .slice A0 N c0))
   rw [add1_full (by show ¬ (K 16).length < 300; omega)]; exact h, Kp.refl _, Below.refl _ _⟩)
  clear h hr ho hf hl h300 hfq
  go_enter Tryz.func58, Tryz.ntmps58
  go_wp2_with fail
  go_loopg [4] N (fun gg i wr => ∃ k : Nat, k <= N /\ k <= 300 /\ gg = N - k /\ i = .int .i64 k /\ Hid (BagS wr gb ((((16 : Nat), Value.slice A0 N c0) :: (L.take k).flatMap oWaits).foldl add1 K) /\ Kp w wr /\ Below gb w wr))
  case atStart => exact ⟨0, by omega, by omega, rfl, rfl, Lib.hid HS1.out⟩
  case round =>
   obtain ⟨k, hk, hk3, rfl, rfl, HR⟩ := hrel
   by_cases h2 : k < N
   ·
    by_cases h3 : k < 300
    ·
     obtain ⟨x, hx⟩ : ∃ x, L[k]? = some x := ⟨_, List.getElem?_eq_getElem (by rw [HA.out.2]; exact h2)⟩
     have hm := List.mem_of_getElem? hx
     obtain ⟨b, o, rfl, hb1, hc1⟩ := (HA.out.1.below HR.out.2.2).at_ (by omega)
     have kc : ∀ i v, (WtL.cells x)[i]? = some v -> i < 3 -> wr.cell? ⟨b, o + k * 3 + i, none⟩ = some v := fun i v hv hi => by
      rw [Nat.add_assoc]
      exact hc1 _ _ (by rw [flat_at WtL.cells 3 (fun _ => rfl) _ _ _ _ hx hi]; exact hv)
     obtain ⟨A1, n1, c1, cv⟩ := HS.out x hm
     have d0 : wr.cell? ⟨b, o + k * 3, none⟩ = some (.string ⟨x.w.f.toArray⟩) := kc 0 _ rfl (by decide)
     have d1 : wr.cell? ⟨b, o + k * 3 + 1, none⟩ = some (.string ⟨x.w.t.toArray⟩) := kc 1 _ rfl (by decide)
     have d2 : wr.cell? ⟨b, o + k * 3 + 2, none⟩ = some (.slice A1 n1 c1) := kc 2 _ (by show some x.cv = _; rw [cv]) (by decide)
     have HTK := Lib.hid (show (L.take (k + 1)).flatMap oWaits = (L.take k).flatMap oWaits ++ oWaits x by rw [List.take_add_one, hx]; simp)
     have HOX := Lib.hid (show oWaits x = [(6, .slice A1 n1 c1)] by unfold oWaits; rw [cv])
     clear kc hc1 hb1 hx hm cv
     go_wp2_with fail
     (refine (addWait_bag gb _ ⟨x.w.f.toArray⟩ ⟨x.w.t.toArray⟩ A1 n1 c1 wr HR.out.1).mono ?_); rintro e w3 ⟨rfl, ha, hkp, hb3⟩
     have HR3 := Lib.hid (show BagS w3 gb ((((16 : Nat), Value.slice (some ⟨b, o, none⟩) N c0) :: (L.take (k + 1)).flatMap oWaits).foldl add1 K) /\ Kp w w3 /\ Below gb w w3 from ⟨by rw [HTK.out, HOX.out, <- List.cons_append, List.foldl_append]; exact ha, HR.out.2.1.trans hkp, HR.out.2.2.trans hb3⟩)
     clear ha hkp hb3
     go_wp2_with fail
     go_roundg (N - (k + 1))
     case measure => omega
     case rel => exact ⟨k + 1, by omega, by omega, rfl, by go_num, Lib.hid HR3.out⟩
    ·
     obtain rfl : k = 300 := by omega
     go_wp2_with fail
     go_end0
     exact ⟨rfl, HR.out⟩
   ·
    obtain rfl : N = k := by omega
    have HE := Lib.hid (show (L.take 300).flatMap oWaits = (L.take N).flatMap oWaits by rw [List.take_of_length_le (by rw [HA.out.2]; omega), List.take_of_length_le (by rw [HA.out.2]; omega)])
    go_wp2_with fail
    go_end0
    exact ⟨rfl, by rw [HE.out]; exact HR.out⟩
theorem sl_lo {W : World} {B B' sz n : Nat} {A : Option Addr} {xs : List Value} (h : Sl W B sz A n xs) (hb : ∀ b o, A = some ⟨b, o, none⟩ -> b < B') : Sl W B' sz A n xs := by
 refine ⟨h.1, ?_⟩
 rcases h.2 with h0 | ⟨b, o, rfl, h1, h2⟩
 · exact .inl h0
 · exact .inr ⟨b, o, rfl, hb b o rfl, h2⟩
/-- What AddCode adds. -/
def oCode (L : CoL) : List (Nat × Value) := ((15, L.fv) :: (L.fns.take 300).flatMap oFunctions) ++ ((16, L.cv) :: (L.casts.take 300).flatMap oWaits) ++ [(2, L.nv)] ++ [(4, L.tv)] ++ [(4, L.yv)]
set_option maxRecDepth 100000 in
set_option maxHeartbeats 2000000 in
theorem addCode_bag (gb : Nat) (K : Nat -> List Value) (L : CoL) (w : World) (h : BagS w gb K) (hC : CR w L) (hB : CB L) (hlf : ∀ b, L.fv.ownBlock = some b -> b < gb) (hlc : ∀ b, L.cv.ownBlock = some b -> b < gb) :
  Calls Tryz.prog 20 #[.pointer (some ⟨gb, 0, none⟩), .agg L.vals.toArray] w fun e w' => AddB gb K (oCode L) w e w' := by
 obtain ⟨A1, c1, e1, hc1, hd1, s1⟩ := hC.f.sl
 obtain ⟨A2, c2, e2, hc2, hd2, s2⟩ := hC.c.sl
 obtain ⟨A3, c3, e3, hc3, hd3, s3⟩ := hC.n.sl
 obtain ⟨A4, c4, e4, hc4, hd4, s4⟩ := hC.t.sl
 obtain ⟨A5, c5, e5, hc5, hd5, s5⟩ := hC.y.sl
 obtain ⟨n1, hn1⟩ : ∃ n, L.fns.length = n := ⟨_, rfl⟩
 obtain ⟨n2, hn2⟩ : ∃ n, L.casts.length = n := ⟨_, rfl⟩
 obtain ⟨n3, hn3⟩ : ∃ n, L.nums.length = n := ⟨_, rfl⟩
 obtain ⟨n4, hn4⟩ : ∃ n, L.texts.length = n := ⟨_, rfl⟩
 obtain ⟨n5, hn5⟩ : ∃ n, L.types.length = n := ⟨_, rfl⟩
 rw [hn1] at e1 s1
 rw [hn2] at e2 s2
 rw [hn3] at e3
 rw [hn4] at e4
 rw [hn5] at e5
 have t1 : Sl w gb 4 A1 n1 (L.fns.flatMap FuL.cells) := sl_lo s1 (fun b o hb => hlf b (by rw [e1, hb]; rfl))
 have t2 : Sl w gb 3 A2 n2 (L.casts.flatMap WtL.cells) := sl_lo s2 (fun b o hb => hlc b (by rw [e2, hb]; rfl))
 have HF := Lib.hid (fun W K (hb : Below gb w W) (hk : BagS W gb K) => addFunctions_bag gb K L.fns n1 A1 c1 W hk hn1 (by have := hB.f; omega) (t1.below hb) (fun g hg => by
  obtain ⟨A, c, h1, _⟩ := (hC.fe g hg).sl
  obtain ⟨A', c', h2, _⟩ := (hC.fc g hg).sl
  exact ⟨A, _, c, A', _, c', h1, h2⟩))
 have HW := Lib.hid (fun W K (hb : Below gb w W) (hk : BagS W gb K) => addWaits_bag gb K L.casts n2 A2 c2 W hk hn2 (by have := hB.c; omega) (t2.below hb) (fun g hg => by
  obtain ⟨A, c, h1, _⟩ := (hC.co g hg).sl
  exact ⟨A, _, c, h1⟩))
 have HO := Lib.hid (show oCode L = ((15, Value.slice A1 n1 c1) :: (L.fns.take 300).flatMap oFunctions) ++ ((16, .slice A2 n2 c2) :: (L.casts.take 300).flatMap oWaits) ++ [(2, .slice A3 n3 c3)] ++ [(4, .slice A4 n4 c4)] ++ [(4, .slice A5 n5 c5)] by unfold oCode; rw [e1, e2, e3, e4, e5])
 rw [show L.vals.toArray = #[.slice A1 n1 c1, .slice A2 n2 c2, .slice A3 n3 c3, .slice A4 n4 c4, .slice A5 n5 c5] by unfold CoL.vals; rw [e1, e2, e3, e4, e5]]
 obtain ⟨bx, hbx⟩ : ∃ x, w.heap.size = x := ⟨_, rfl⟩
 obtain ⟨W1, hW1⟩ : ∃ X, w.alloc (.cells #[.slice A1 n1 c1, .slice A2 n2 c2, .slice A3 n3 c3, .slice A4 n4 c4, .slice A5 n5 c5] 27) = X := ⟨_, rfl⟩
 have hb1 : Below w.heap.size w W1 := by rw [<- hW1]; exact bal b0 _
 have k1 : Blk W1 bx 27 #[.slice A1 n1 c1, .slice A2 n2 c2, .slice A3 n3 c3, .slice A4 n4 c4, .slice A5 n5 c5] := by rw [<- hW1, <- hbx]; exact Blk.new w _ _
 have HK1 := Lib.hid (show AddB gb K [] w (.returned (.tuple #[])) W1 /\ Blk W1 bx 27 #[.slice A1 n1 c1, .slice A2 n2 c2, .slice A3 n3 c3, .slice A4 n4 c4, .slice A5 n5 c5] from ⟨⟨rfl, h.grow hb1, Kp.of_below hb1, hb1.mono (Nat.le_of_lt h.lt)⟩, k1⟩)
 have x1 : W1.cell? ⟨bx, 0, none⟩ = some (.slice A1 n1 c1) := (k1.cell 0).trans rfl
 clear h hC hB hlf hlc e1 e2 e3 e4 e5 s1 s2 s3 s4 s5 hn1 hn2 hn3 hn4 hn5 hc1 hc2 hc3 hc4 hc5 hd1 hd2 hd3 hd4 hd5 hb1 k1 t1 t2
 unfold AddB
 go_enter Tryz.func20, Tryz.ntmps20
 go_upto_region 1 with fail
 clear hW1 hbx
 go_wp2_with fail
 (refine (HF.out _ _ HK1.out.1.2.2.2 HK1.out.1.2.1).mono ?_); rintro e w2 ⟨rfl, ha, hk, hb⟩
 have HK2 := Lib.hid (show AddB gb K (((15, Value.slice A1 n1 c1) :: (L.fns.take 300).flatMap oFunctions)) w (.returned (.tuple #[])) w2 /\ Blk w2 bx 27 #[.slice A1 n1 c1, .slice A2 n2 c2, .slice A3 n3 c3, .slice A4 n4 c4, .slice A5 n5 c5] from ⟨HK1.out.1.trans (l := []) ⟨rfl, ha, hk, hb⟩, hk.blk_ HK1.out.2 (by decide)⟩)
 have x2 : w2.cell? ⟨bx, 1, none⟩ = some (.slice A2 n2 c2) := (HK2.out.2.cell 1).trans rfl
 clear ha hk hb x1
 go_wp2_with fail
 (refine (HW.out _ _ HK2.out.1.2.2.2 HK2.out.1.2.1).mono ?_); rintro e w3 ⟨rfl, ha, hk, hb⟩
 have HK3 := Lib.hid (show AddB gb K (((15, Value.slice A1 n1 c1) :: (L.fns.take 300).flatMap oFunctions) ++ ((16, Value.slice A2 n2 c2) :: (L.casts.take 300).flatMap oWaits)) w (.returned (.tuple #[])) w3 /\ Blk w3 bx 27 #[.slice A1 n1 c1, .slice A2 n2 c2, .slice A3 n3 c3, .slice A4 n4 c4, .slice A5 n5 c5] from ⟨HK2.out.1.trans ⟨rfl, ha, hk, hb⟩, hk.blk_ HK2.out.2 (by decide)⟩)
 have x3 : w3.cell? ⟨bx, 2, none⟩ = some (.slice A3 n3 c3) := (HK3.out.2.cell 2).trans rfl
 clear ha hk hb x2
 go_wp2_with fail
 (refine (addLongs_bag gb _ A3 n3 c3 _ HK3.out.1.2.1).mono ?_); rintro e w4 ⟨rfl, ha, hk, hb⟩
 have HK4 := Lib.hid (show AddB gb K (((15, Value.slice A1 n1 c1) :: (L.fns.take 300).flatMap oFunctions) ++ ((16, Value.slice A2 n2 c2) :: (L.casts.take 300).flatMap oWaits) ++ [(2, Value.slice A3 n3 c3)]) w (.returned (.tuple #[])) w4 /\ Blk w4 bx 27 #[.slice A1 n1 c1, .slice A2 n2 c2, .slice A3 n3 c3, .slice A4 n4 c4, .slice A5 n5 c5] from ⟨HK3.out.1.trans ⟨rfl, ha, hk, hb⟩, hk.blk_ HK3.out.2 (by decide)⟩)
 have x4 : w4.cell? ⟨bx, 3, none⟩ = some (.slice A4 n4 c4) := (HK4.out.2.cell 3).trans rfl
 clear ha hk hb x3
 go_wp2_with fail
 (refine (addTexts_bag gb _ A4 n4 c4 _ HK4.out.1.2.1).mono ?_); rintro e w5 ⟨rfl, ha, hk, hb⟩
 have HK5 := Lib.hid (show AddB gb K (((15, Value.slice A1 n1 c1) :: (L.fns.take 300).flatMap oFunctions) ++ ((16, Value.slice A2 n2 c2) :: (L.casts.take 300).flatMap oWaits) ++ [(2, Value.slice A3 n3 c3)] ++ [(4, Value.slice A4 n4 c4)]) w (.returned (.tuple #[])) w5 /\ Blk w5 bx 27 #[.slice A1 n1 c1, .slice A2 n2 c2, .slice A3 n3 c3, .slice A4 n4 c4, .slice A5 n5 c5] from ⟨HK4.out.1.trans ⟨rfl, ha, hk, hb⟩, hk.blk_ HK4.out.2 (by decide)⟩)
 have x5 : w5.cell? ⟨bx, 4, none⟩ = some (.slice A5 n5 c5) := (HK5.out.2.cell 4).trans rfl
 clear ha hk hb x4
 go_wp2_with fail
 (refine (addTexts_bag gb _ A5 n5 c5 _ HK5.out.1.2.1).mono ?_); rintro e w6 ⟨rfl, ha, hk, hb⟩
 have HK6 := Lib.hid (show AddB gb K (((15, Value.slice A1 n1 c1) :: (L.fns.take 300).flatMap oFunctions) ++ ((16, Value.slice A2 n2 c2) :: (L.casts.take 300).flatMap oWaits) ++ [(2, Value.slice A3 n3 c3)] ++ [(4, Value.slice A4 n4 c4)] ++ [(4, Value.slice A5 n5 c5)]) w (.returned (.tuple #[])) w6 /\ Blk w6 bx 27 #[.slice A1 n1 c1, .slice A2 n2 c2, .slice A3 n3 c3, .slice A4 n4 c4, .slice A5 n5 c5] from ⟨HK5.out.1.trans ⟨rfl, ha, hk, hb⟩, hk.blk_ HK5.out.2 (by decide)⟩)
 clear ha hk hb x5
 go_wp2_with fail
 go_end0
 rw [HO.out]
 exact HK6.out.1
end Go.Proofs.YtobplngonkdbpaaGreatDoor.B
