/- Parts of this claim: CfC, CfE, AnG. -/
import Derived.Test.YtobplngonkdbpaaGreatDoorP13
import Derived.Test.YtobplngonkdbpaaGreatDoorP14
set_option linter.unusedVariables false
set_option linter.unusedSimpArgs false
/- CfC -/
namespace Go.Proofs.YtobplngonkdbpaaGreatDoor.D
open Go.RowKit
open Go.Proofs.YtobplngonkdbpaaGreatDoor.B
set_option linter.unusedVariables false
set_option linter.unusedSimpArgs false

/-- A row of one element, just made. -/
theorem Sl.fresh (w : World) (xs : List Value) (sz : Nat) (T : TypeId) (h : xs.length = sz) : Sl (w.alloc (.cells xs.toArray T)) (w.heap.size + 1) sz (some ⟨w.heap.size, 0, none⟩) 1 xs := by
  refine ⟨by omega, .inr ⟨w.heap.size, 0, rfl, by simp, fun j u hu => ?_⟩⟩
  rw [Nat.zero_add, World.cell?_alloc_new]
  simpa using hu
theorem lt_same {W W' : World} {b : Nat} (h : W'.heap[b]? = W.heap[b]?) (hb : b < W.heap.size) : b < W'.heap.size := by
  rw [Array.getElem?_eq_getElem hb] at h
  exact (Array.getElem?_eq_some_iff.1 h).1
theorem allV_snoc {α : Type} (f : Bs → Option α) (x : Bs) : ∀ l : List Bs, allV f (l ++ [x]) = (match allV f l, f x with | some a, some b => some (a ++ [b]) | _, _ => none)
  | [] => by
    rw [List.nil_append, allV, allV]
    rcases f x with _ | b <;> rfl
  | w :: l => by
    rw [List.cons_append, allV, allV, allV_snoc f x l]
    rcases f w with _ | a
    · rfl
    · rcases allV f l with _ | q
      · rfl
      · rcases f x with _ | b <;> rfl
theorem allV_is {α : Type} (f : Bs → Option α) (x : Bs) (l : List Bs) : (allV f (l ++ [x])).isSome = ((allV f l).isSome && (f x).isSome) := by
  rw [allV_snoc]
  rcases allV f l with _ | a <;> rcases f x with _ | b <;> rfl
theorem allV_last {α : Type} {f : Bs → Option α} {x : Bs} {l : List Bs} {q : List α} (h : allV f (l ++ [x]) = some q) : ∃ a b, allV f l = some a ∧ f x = some b ∧ q = a ++ [b] := by
  rw [allV_snoc] at h
  rcases h1 : allV f l with _ | a
  · rw [h1] at h; cases h
  rcases h2 : f x with _ | b
  · rw [h1, h2] at h; cases h
  rw [h1, h2] at h
  injection h with h
  exact ⟨a, b, rfl, rfl, h.symm⟩
noncomputable def castIt (f t : Bs) (cs : List Bs) : Option Item := match unq f, unq t, allV ndV cs with
  | some f, some t, some l => some (.cast f t l)
  | _, _, _ => none
theorem castIt_is (f t : Bs) (cs : List Bs) : (castIt f t cs).isSome = ((unq f).isSome && (unq t).isSome && (allV ndV cs).isSome) := by
  unfold castIt
  rcases unq f with _ | a <;> rcases unq t with _ | b <;> rcases allV ndV cs with _ | l <;> rfl
theorem castIt_some {f t f' t' : Bs} {cs : List Bs} {D : List Nd} (hf : ∀ v, unq f = some v → f' = v) (ht : ∀ v, unq t = some v → t' = v) (hd : ∀ l, allV ndV cs = some l → D = l) (i : Item) (h : castIt f t cs = some i) : i = .cast f' t' D := by
  unfold castIt at h
  rcases h1 : unq f with _ | a
  · rw [h1] at h; cases h
  rcases h2 : unq t with _ | b
  · rw [h1, h2] at h; cases h
  rcases h3 : allV ndV cs with _ | l
  · rw [h1, h2, h3] at h; cases h
  rw [h1, h2, h3] at h
  injection h with h
  rw [← h, hf a h1, ht b h2, hd l h3]
section
variable {w w3 w4 : World} {r st B b : Nat} {L : CoL} {V V' : Value} {f t : Bs} {D : List Nd} {E : List Bs}
theorem RAt.cast (h : RAt w3 r L st) (hx : w3.ownsRow b 86 7 V D.length (cosC D)) (hb : r + 1 ≤ b) (hf : ∀ x ∈ L.rws, Ap x.v V) (ht : Tch w3 w4 L.cv.ownBlock V'.ownBlock)
    (ho : w4.ownsRow (r + 1) 84 3 V' (L.casts.length + 1) (L.casts.flatMap WtL.cells ++ [strV f, strV t, V])) :
    RAt (w4.setCell ⟨r, 1, none⟩ V') r { L with casts := L.casts ++ [⟨⟨f, t, D⟩, V⟩], cv := V' } st := by
  have h1 : Own w3 (r + 1) (L.rws ++ [] ) := by rw [List.append_nil]; exact h.own
  have h2 := h1.add (r := ⟨86, 7, V, D.length, cosC D⟩) (own_base hx hb) (fun x hx => hf x (by rcases hx with hx | hx; exact hx; cases hx))
  have h3 : Own w4 (r + 1) ([rowF L] ++ rowC { L with casts := L.casts ++ [⟨⟨f, t, D⟩, V⟩], cv := V' } :: (rowN L :: rowT L :: rowY L :: (rowR L ++ [⟨86, 7, V, D.length, cosC D⟩]))) := by
    refine Own.touch (w := w3) (r := rowC L) ?_ ht (by simpa [rowC, WtL.cells] using ho)
    simpa [rws_eq] using h2
  refine ⟨(h.far (rowC_in L) ht).set_ 1 V', ?_⟩
  refine RAt.low ?_ 1 V'
  have e : CoL.rws { L with casts := L.casts ++ [⟨⟨f, t, D⟩, V⟩], cv := V' } = [rowF L] ++ rowC { L with casts := L.casts ++ [⟨⟨f, t, D⟩, V⟩], cv := V' } :: (rowN L :: rowT L :: rowY L :: (rowR L ++ [⟨86, 7, V, D.length, cosC D⟩])) := by
    rw [rws_eq]; simp [rowF, rowN, rowT, rowY, rowR, WtL.rw]
  rw [e]; exact h3
theorem RAt.func (h : RAt w3 r L st) (hx : w3.ownsRow b 9 1 V E.length (envC E)) (hb : r + 1 ≤ b) (hf : ∀ x ∈ L.rws, Ap x.v V) (ht : Tch w3 w4 L.fv.ownBlock V'.ownBlock)
    (ho : w4.ownsRow (r + 1) 90 4 V' (L.fns.length + 1) (L.fns.flatMap FuL.cells ++ [V, strV f, strV t, .slice none 0 0])) :
    RAt (w4.setCell ⟨r, 0, none⟩ V') r { L with fns := L.fns ++ [⟨V, ⟨E, f, t, []⟩, .slice none 0 0⟩], fv := V' } st := by
  obtain ⟨Z, hZ⟩ : ∃ Z, [rowF L, rowC L, rowN L, rowT L, rowY L] ++ L.fns.flatMap FuL.rws = Z := ⟨_, rfl⟩
  have h0 : Own w3 (r + 1) (Z ++ L.casts.map WtL.rw) := by rw [← hZ]; simpa [rws_eq, rowR] using h.own
  have hz : ∀ x, x ∈ Z ∨ x ∈ L.casts.map WtL.rw → x ∈ L.rws := by
    intro x hx
    rw [← hZ] at hx
    rw [rws_eq]
    simpa [rowR, or_assoc] using hx
  have h2 := h0.add (r := ⟨9, 1, V, E.length, envC E⟩) (own_base hx hb) (fun x hx => hf x (hz x hx))
  have h2' : Own w3 (r + 1) ((Z ++ [⟨9, 1, V, E.length, envC E⟩]) ++ L.casts.map WtL.rw) := by simpa using h2
  have h22 := h2'.add (r := ⟨92, 3, .slice none 0 0, 0, []⟩) (World.ownsRow_nil _ _ _ _) (fun x hx => (Ap.nil x.v).symm)
  have h3 : Own w4 (r + 1) ([] ++ rowF { L with fns := L.fns ++ [⟨V, ⟨E, f, t, []⟩, .slice none 0 0⟩], fv := V' } :: (rowC L :: rowN L :: rowT L :: rowY L :: (L.fns.flatMap FuL.rws ++ ⟨9, 1, V, E.length, envC E⟩ :: ⟨92, 3, .slice none 0 0, 0, []⟩ :: L.casts.map WtL.rw))) := by
    refine Own.touch (w := w3) (r := rowF L) ?_ ht (by simpa [rowF, FuL.cells] using ho)
    rw [← hZ] at h22
    simpa using h22
  refine ⟨(h.far (rowF_in L) ht).set_ 0 V', ?_⟩
  refine RAt.low ?_ 0 V'
  have e : CoL.rws { L with fns := L.fns ++ [⟨V, ⟨E, f, t, []⟩, .slice none 0 0⟩], fv := V' } = [] ++ rowF { L with fns := L.fns ++ [⟨V, ⟨E, f, t, []⟩, .slice none 0 0⟩], fv := V' } :: (rowC L :: rowN L :: rowT L :: rowY L :: (L.fns.flatMap FuL.rws ++ ⟨9, 1, V, E.length, envC E⟩ :: ⟨92, 3, .slice none 0 0, 0, []⟩ :: L.casts.map WtL.rw)) := by
    rw [rws_eq]; simp [rowC, rowN, rowT, rowY, rowR, FuL.rws, codC]
  rw [e]; exact h3
end
end Go.Proofs.YtobplngonkdbpaaGreatDoor.D

/- CfE -/
namespace Go.Proofs.YtobplngonkdbpaaGreatDoor.D
open Go.RowKit
open Go.Proofs.YtobplngonkdbpaaGreatDoor.B
set_option linter.unusedVariables false
set_option linter.unusedSimpArgs false

noncomputable def fnIt (es : List Bs) (p q : Bs) : Option Item := match allV unq es, unq p, unq q with
  | some e, some p, some q => some (.fn e p q)
  | _, _, _ => none
theorem rdFn_eq (es : List Bs) (p q : Bs) : rdFn (es ++ [[58], p, q]) = fnIt es p q := by
  unfold rdFn fnIt
  have hl : (es ++ [[58], p, q]).length = es.length + 3 := by simp
  rw [hl]
  have h1 : (es ++ [[58], p, q])[es.length + 3 - 3]? = some [58] := by
    rw [List.getElem?_append_right (by simp)]; simp
  have h2 : (es ++ [[58], p, q]).getD (es.length + 3 - 2) [] = p := by
    rw [List.getD_eq_getElem?_getD, List.getElem?_append_right (by simp)]; simp [show es.length + 3 - 2 - es.length = 1 by omega]
  have h3 : (es ++ [[58], p, q]).getD (es.length + 3 - 1) [] = q := by
    rw [List.getD_eq_getElem?_getD, List.getElem?_append_right (by simp)]; simp [show es.length + 3 - 1 - es.length = 2 by omega]
  have h4 : (es ++ [[58], p, q]).take (es.length + 3 - 3) = es := by
    rw [show es.length + 3 - 3 = es.length by omega, List.take_left']; rfl
  rw [h1, h2, h3, h4, if_neg (by simp)]; (try rfl)
theorem fnIt_is (es : List Bs) (p q : Bs) : (fnIt es p q).isSome = ((unq p).isSome && (unq q).isSome && (allV unq es).isSome) := by
  unfold fnIt
  rcases unq p with _ | a <;> rcases unq q with _ | b <;> rcases allV unq es with _ | l <;> rfl
theorem fnIt_some {p q p' q' : Bs} {es E : List Bs} (hp : ∀ v, unq p = some v → p' = v) (hq : ∀ v, unq q = some v → q' = v) (he : ∀ l, allV unq es = some l → E = l) (i : Item) (h : fnIt es p q = some i) : i = .fn E p' q' := by
  unfold fnIt at h
  rcases h3 : allV unq es with _ | l
  · rw [h3] at h; cases h
  rcases h1 : unq p with _ | a
  · rw [h3, h1] at h; cases h
  rcases h2 : unq q with _ | b
  · rw [h3, h1, h2] at h; cases h
  rw [h3, h1, h2] at h
  injection h with h
  rw [← h, hp a h1, hq b h2, he l h3]

noncomputable def insIt (o a b : Bs) : Option Item := match opV o, numV a, numV b with
  | some o, some a, some b => some (.ins o a b)
  | _, _, _ => none
theorem insIt_is (o a b : Bs) : (insIt o a b).isSome = ((opV o).isSome && (numV a).isSome && (numV b).isSome) := by
  unfold insIt
  rcases opV o with _ | x <;> rcases numV a with _ | y <;> rcases numV b with _ | z <;> rfl
theorem insIt_some {o a b : Bs} {o' a' b' : Int} (ho : ∀ v, opV o = some v → o' = v) (ha : ∀ v, numV a = some v → a' = v) (hb : ∀ v, numV b = some v → b' = v) (i : Item) (h : insIt o a b = some i) : i = .ins o' a' b' := by
  unfold insIt at h
  rcases h1 : opV o with _ | x
  · rw [h1] at h; cases h
  rcases h2 : numV a with _ | y
  · rw [h1, h2] at h; cases h
  rcases h3 : numV b with _ | z
  · rw [h1, h2, h3] at h; cases h
  rw [h1, h2, h3] at h
  injection h with h
  rw [← h, ho x h1, ha y h2, hb z h3]
/-- One cell of a row of one's own is written. -/
theorem own_set1 {w : World} {base e sz n g c j : Nat} {xs : List Value} {v : Value} (h : w.ownsRow base e sz (.slice (some ⟨g, 0, none⟩) n c) n xs) (hj : j < n * sz) :
    (w.setCell ⟨g, j, none⟩ v).ownsRow base e sz (.slice (some ⟨g, 0, none⟩) n c) n (xs.set j v) := by
  refine ⟨by rw [List.length_set]; exact h.1, ?_⟩
  rcases h.2 with ⟨h0, _⟩ | ⟨g', cap, cur, hv, hbg, hg, hcap, hmax, hcs, ht⟩
  · cases h0
  · injection hv with h1 h2 h3
    injection h1 with h1
    injection h1 with h1
    subst h1 h3
    refine .inr ⟨g, c, cur.setIfInBounds j v, rfl, hbg, ?_, hcap, hmax, by simpa using hcs, ?_⟩
    · exact Blk.set_ (t := e) hg j v
    · rw [Array.toList_setIfInBounds, List.take_set, ht]
theorem own_blk {w : World} {base e sz n g : Nat} {v : Value} {xs : List Value} (h : w.ownsRow base e sz v n xs) (hv : v.ownBlock = some g) : ∃ cur, Blk w g e cur := by
  rcases h.2 with ⟨rfl, _⟩ | ⟨g', cap, cur, rfl, _, hg, _⟩
  · cases hv
  · injection hv with hv; subst hv; exact ⟨cur, hg⟩
theorem own_lt {w : World} {base e sz n g c : Nat} {xs : List Value} (h : w.ownsRow base e sz (.slice (some ⟨g, 0, none⟩) n c) n xs) : base ≤ g ∧ g < w.heap.size := h.lt g rfl
theorem Own.set1 {w : World} {base g c j : Nat} {A Bl : List Rw} {x : Rw} {v : Value} (h : Own w base (A ++ x :: Bl)) (hx : x.v = .slice (some ⟨g, 0, none⟩) x.n c) (hj : j < x.n * x.sz) :
    Own (w.setCell ⟨g, j, none⟩ v) base (A ++ { x with xs := x.xs.set j v } :: Bl) := by
  have hb := but_set (C := fun k => k = g) (But.refl _ w) (b := g) (i := j) rfl v
  have ho := h.own x (by simp)
  refine h.touch (r := x) (r' := { x with xs := x.xs.set j v }) (.inl ⟨rfl, ⟨hb.os, hb.tape, hb.output, hb.size, fun k hk hne => hb.block k hk fun e => hne (by rw [hx, e]; rfl)⟩⟩) ?_
  rw [hx] at ho
  have := own_set1 (v := v) ho hj
  simpa only [hx] using this
theorem fl_len : ∀ l : List FuL, (l.flatMap FuL.cells).length = l.length * 4
  | [] => rfl
  | g :: l => by rw [List.flatMap_cons, List.length_append, fl_len l, List.length_cons]; simp [FuL.cells]; omega
theorem fl_set (l : List FuL) (a b c d v : Value) : (l.flatMap FuL.cells ++ [a, b, c, d]).set (l.length * 4 + 3) v = l.flatMap FuL.cells ++ [a, b, c, v] := by
  rw [List.set_append_right _ _ (by rw [fl_len]; omega), fl_len, show l.length * 4 + 3 - l.length * 4 = 3 by omega]; rfl
section
variable {w w3 w4 : World} {r st B b : Nat} {L : CoL} {V V' : Value} {F0 : List FuL} {g : FuL} {i : In} {gF cF : Nat}
/-- An instruction more in the last function. -/
theorem RAt.ins (h : RAt w3 r L st) (hL : L.fns = F0 ++ [g]) (hv : L.fv = .slice (some ⟨gF, 0, none⟩) L.fns.length cF) (ht : Tch w3 w4 g.cv.ownBlock V'.ownBlock)
    (ho : w4.ownsRow (r + 1) 92 3 V' (g.f.code.length + 1) (codC g.f.code ++ inC i)) :
    RAt (w4.setCell ⟨gF, F0.length * 4 + 3, none⟩ V') r { L with fns := F0 ++ [⟨g.ev, { g.f with code := g.f.code ++ [i] }, V'⟩] } st := by
  obtain ⟨g', hg'⟩ : ∃ g', (⟨g.ev, { g.f with code := g.f.code ++ [i] }, V'⟩ : FuL) = g' := ⟨_, rfl⟩
  have hgl : F0.length + 1 = L.fns.length := by rw [hL]; simp
  have h1 : Own w3 (r + 1) ((rowF L :: rowC L :: rowN L :: rowT L :: rowY L :: (F0.flatMap FuL.rws ++ [⟨9, 1, g.ev, g.f.env.length, envC g.f.env⟩])) ++ ⟨92, 3, g.cv, g.f.code.length, codC g.f.code⟩ :: L.casts.map WtL.rw) := by
    have := h.own
    rw [rws_eq] at this
    simpa [rowR, hL, FuL.rws] using this
  have h2 := h1.touch (r' := ⟨92, 3, V', g.f.code.length + 1, codC g.f.code ++ inC i⟩) ht ho
  have h3 : Own w4 (r + 1) ([] ++ rowF L :: ((rowC L :: rowN L :: rowT L :: rowY L :: (F0.flatMap FuL.rws ++ [⟨9, 1, g.ev, g.f.env.length, envC g.f.env⟩])) ++ ⟨92, 3, V', g.f.code.length + 1, codC g.f.code ++ inC i⟩ :: L.casts.map WtL.rw)) := by
    simpa using h2
  have h4 := h3.set1 (g := gF) (c := cF) (j := F0.length * 4 + 3) (v := V') hv (by show _ < L.fns.length * 4; omega)
  have hk : Blk w4 r 106 #[L.fv, L.cv, L.nv, L.tv, L.yv, .int .i64 st] := by
    have hm : (⟨92, 3, g.cv, g.f.code.length, codC g.f.code⟩ : Rw) ∈ L.rws := by rw [rws_eq]; simp [rowR, hL, FuL.rws]
    exact h.far hm ht
  have hgF : r + 1 ≤ gF := by
    have := h.own.lt (rowF_in L) gF (by show L.fv.ownBlock = _; rw [hv]; rfl)
    exact this.1
  refine ⟨hk.far (show r ≠ gF by omega) V', ?_⟩
  have e : CoL.rws { L with fns := F0 ++ [g'] } = [] ++ rowF { L with fns := F0 ++ [g'] } :: ((rowC L :: rowN L :: rowT L :: rowY L :: (F0.flatMap FuL.rws ++ [⟨9, 1, g.ev, g.f.env.length, envC g.f.env⟩])) ++ ⟨92, 3, V', g.f.code.length + 1, codC g.f.code ++ inC i⟩ :: L.casts.map WtL.rw) := by
    rw [rws_eq, ← hg']; simp [rowC, rowN, rowT, rowY, rowR, FuL.rws, codC, inC]
  have e2 : ({ rowF L with xs := (rowF L).xs.set (F0.length * 4 + 3) V' } : Rw) = rowF { L with fns := F0 ++ [g'] } := by
    simp only [rowF, hL, List.flatMap_append, List.flatMap_cons, List.flatMap_nil, List.append_nil, List.length_append, List.length_singleton, ← hg']
    rw [show FuL.cells g = [g.ev, strV g.f.param, strV g.f.res, g.cv] from rfl, fl_set]
    rfl
  rw [hg', e]
  rw [e2] at h4
  exact h4
theorem RAt.ins_row (hL : L.fns = F0 ++ [g]) : (⟨92, 3, g.cv, g.f.code.length, codC g.f.code⟩ : Rw) ∈ L.rws := by rw [rws_eq]; simp [rowR, hL, FuL.rws]
theorem RAt.ins_apart (h : RAt w r L st) (hL : L.fns = F0 ++ [g]) (hv : L.fv.ownBlock = some gF) : g.cv.ownBlock ≠ some gF := by
  have h1 := h.own.ap
  rw [rws_eq] at h1
  have h2 := (List.pairwise_cons.1 h1).1 (⟨92, 3, g.cv, g.f.code.length, codC g.f.code⟩ : Rw) (by simp [rowR, hL, FuL.rws])
  exact h2 gF hv
theorem anyF_c (cf : Nat) (s : Bs) (g : Bool) (w : World) (hl : s.length ≤ 1073741824) (hg : Gl w) (hb : Blk w cf 141 #[.bool g]) (h8 : 8 ≤ cf) :
    Calls Tryz.prog 102 #[.pointer (some ⟨cf, 0, none⟩), strV s] w fun e w' =>
      ∃ n, e = .returned (.int .i64 n) ∧ inR n ∧ (∀ v, numV s = some v → n = v) ∧ Blk w' cf 141 #[.bool (g && (numV s).isSome)] ∧ But (fun k => k = cf) w w' := by
  have h := any_c cf s g w hl hg hb h8
  unfold NumQ at h
  simpa only [numB_all] using h
end
end Go.Proofs.YtobplngonkdbpaaGreatDoor.D

/- AnG -/
namespace Go.Proofs.YtobplngonkdbpaaGreatDoor.D
open Go.RowKit
open Go.Proofs.YtobplngonkdbpaaGreatDoor.B
set_option linter.unusedVariables false
set_option linter.unusedSimpArgs false

section
variable {w w3 w4 : World} {r st B i b : Nat} {L : CoL} {A Bl l : List Rw} {x x' : Rw} {v V V' : Value} {f t : Bs} {D : List Nd} {E : List Bs} {F0 : List FuL} {g : FuL} {gF cF : Nat}
structure RBt (w : World) (r : Nat) (L : CoL) (st : Nat) : Prop where
  blk : Blk w r 123 #[L.fv, L.cv, L.nv, L.tv, L.yv, .int .i64 st]
  own : Own w (r + 1) L.rws
theorem RBt.grow {w' : World} (h : RBt w r L st) (hb : Below w.heap.size w w') : RBt w' r L st := ⟨h.blk.below hb h.blk.lt, h.own.grow hb⟩
theorem RBt.drew (h : RBt w r L st) : RBt w.drew r L st := h.grow (bdr b0 1)
theorem RBt.upd (h : RBt w3 r L st) (hl : L.rws = A ++ x :: Bl) (ht : Tch w3 w4 x.v.ownBlock x'.v.ownBlock) (ho : w4.ownsRow (r + 1) x'.e x'.sz x'.v x'.n x'.xs) :
    Own w4 (r + 1) (A ++ x' :: Bl) ∧ Blk w4 r 123 #[L.fv, L.cv, L.nv, L.tv, L.yv, .int .i64 st] := by
  have ho2 := h.own
  rw [hl] at ho2
  refine ⟨ho2.touch ht ho, (ht.block h.blk.lt fun e => ?_).trans h.blk⟩
  have := (ho2.lt (r := x) (by simp) r e).1
  omega
theorem RBt.far {u : Option Nat} (h : RBt w3 r L st) (hx : x ∈ L.rws) (ht : Tch w3 w4 x.v.ownBlock u) : Blk w4 r 123 #[L.fv, L.cv, L.nv, L.tv, L.yv, .int .i64 st] :=
  (ht.block h.blk.lt fun e => by have := (h.own.lt hx r e).1; omega).trans h.blk
theorem RBt.but {u : Option Nat} (h : RBt w3 r L st) (hx : x ∈ L.rws) (ht : Tch w3 w4 x.v.ownBlock u) : Below r w3 w4 :=
  (ht.but (C := fun k => x.v.ownBlock = some k) (But.refl _ w3) fun k hk _ => hk).below (Nat.le_of_lt h.blk.lt) fun k hk => by have := (h.own.lt hx k hk).1; omega
theorem RBt.away (h : RBt w r L st) (hx : x ∈ L.rws) {b : Nat} (hb : w.heap.size ≤ b) : x.v.ownBlock ≠ some b := fun e => by have := (h.own.lt hx b e).2; omega
theorem RBt.low (h : Own w (r + 1) l) (i : Nat) (v : Value) : Own (w.setCell ⟨r, i, none⟩ v) (r + 1) l := h.low (Nat.lt_succ_self r) i v
theorem RBt.num {V : Value} {n : Int} (h : RBt w3 r L st) (ht : Tch w3 w4 L.nv.ownBlock V.ownBlock) (ho : w4.ownsRow (r + 1) 2 1 V (L.nums.length + 1) (numC L.nums ++ [.int .i64 n])) :
    RBt (w4.setCell ⟨r, 2, none⟩ V) r { L with nums := L.nums ++ [n], nv := V } st := by
  obtain ⟨h1, h2⟩ := h.upd (A := [rowF L, rowC L]) (x := rowN L) (Bl := rowT L :: rowY L :: rowR L) (x' := rowN { L with nums := L.nums ++ [n], nv := V }) rfl ht (by
    simpa [rowN, numC] using ho)
  exact ⟨h2.set_ 2 V, RBt.low h1 2 V⟩
theorem RBt.text {V : Value} {n : Bs} (h : RBt w3 r L st) (ht : Tch w3 w4 L.tv.ownBlock V.ownBlock) (ho : w4.ownsRow (r + 1) 9 1 V (L.texts.length + 1) (envC L.texts ++ [strV n])) :
    RBt (w4.setCell ⟨r, 3, none⟩ V) r { L with texts := L.texts ++ [n], tv := V } st := by
  obtain ⟨h1, h2⟩ := h.upd (A := [rowF L, rowC L, rowN L]) (x := rowT L) (Bl := rowY L :: rowR L) (x' := rowT { L with texts := L.texts ++ [n], tv := V }) rfl ht (by
    simpa [rowT, envC] using ho)
  exact ⟨h2.set_ 3 V, RBt.low h1 3 V⟩
theorem RBt.type {V : Value} {n : Bs} (h : RBt w3 r L st) (ht : Tch w3 w4 L.yv.ownBlock V.ownBlock) (ho : w4.ownsRow (r + 1) 9 1 V (L.types.length + 1) (envC L.types ++ [strV n])) :
    RBt (w4.setCell ⟨r, 4, none⟩ V) r { L with types := L.types ++ [n], yv := V } st := by
  obtain ⟨h1, h2⟩ := h.upd (A := [rowF L, rowC L, rowN L, rowT L]) (x := rowY L) (Bl := rowR L) (x' := rowY { L with types := L.types ++ [n], yv := V }) rfl ht (by
    simpa [rowY, envC] using ho)
  exact ⟨h2.set_ 4 V, RBt.low h1 4 V⟩
theorem RBt.cast (h : RBt w3 r L st) (hx : w3.ownsRow b 86 7 V D.length (cosC D)) (hb : r + 1 ≤ b) (hf : ∀ x ∈ L.rws, Ap x.v V) (ht : Tch w3 w4 L.cv.ownBlock V'.ownBlock)
    (ho : w4.ownsRow (r + 1) 84 3 V' (L.casts.length + 1) (L.casts.flatMap WtL.cells ++ [strV f, strV t, V])) :
    RBt (w4.setCell ⟨r, 1, none⟩ V') r { L with casts := L.casts ++ [⟨⟨f, t, D⟩, V⟩], cv := V' } st := by
  have h1 : Own w3 (r + 1) (L.rws ++ [] ) := by rw [List.append_nil]; exact h.own
  have h2 := h1.add (r := ⟨86, 7, V, D.length, cosC D⟩) (own_base hx hb) (fun x hx => hf x (by rcases hx with hx | hx; exact hx; cases hx))
  have h3 : Own w4 (r + 1) ([rowF L] ++ rowC { L with casts := L.casts ++ [⟨⟨f, t, D⟩, V⟩], cv := V' } :: (rowN L :: rowT L :: rowY L :: (rowR L ++ [⟨86, 7, V, D.length, cosC D⟩]))) := by
    refine Own.touch (w := w3) (r := rowC L) ?_ ht (by simpa [rowC, WtL.cells] using ho)
    simpa [rws_eq] using h2
  refine ⟨(h.far (rowC_in L) ht).set_ 1 V', ?_⟩
  refine RBt.low ?_ 1 V'
  have e : CoL.rws { L with casts := L.casts ++ [⟨⟨f, t, D⟩, V⟩], cv := V' } = [rowF L] ++ rowC { L with casts := L.casts ++ [⟨⟨f, t, D⟩, V⟩], cv := V' } :: (rowN L :: rowT L :: rowY L :: (rowR L ++ [⟨86, 7, V, D.length, cosC D⟩])) := by
    rw [rws_eq]; simp [rowF, rowN, rowT, rowY, rowR, WtL.rw]
  rw [e]; exact h3
theorem RBt.func (h : RBt w3 r L st) (hx : w3.ownsRow b 9 1 V E.length (envC E)) (hb : r + 1 ≤ b) (hf : ∀ x ∈ L.rws, Ap x.v V) (ht : Tch w3 w4 L.fv.ownBlock V'.ownBlock)
    (ho : w4.ownsRow (r + 1) 90 4 V' (L.fns.length + 1) (L.fns.flatMap FuL.cells ++ [V, strV f, strV t, .slice none 0 0])) :
    RBt (w4.setCell ⟨r, 0, none⟩ V') r { L with fns := L.fns ++ [⟨V, ⟨E, f, t, []⟩, .slice none 0 0⟩], fv := V' } st := by
  obtain ⟨Z, hZ⟩ : ∃ Z, [rowF L, rowC L, rowN L, rowT L, rowY L] ++ L.fns.flatMap FuL.rws = Z := ⟨_, rfl⟩
  have h0 : Own w3 (r + 1) (Z ++ L.casts.map WtL.rw) := by rw [← hZ]; simpa [rws_eq, rowR] using h.own
  have hz : ∀ x, x ∈ Z ∨ x ∈ L.casts.map WtL.rw → x ∈ L.rws := by
    intro x hx
    rw [← hZ] at hx
    rw [rws_eq]
    simpa [rowR, or_assoc] using hx
  have h2 := h0.add (r := ⟨9, 1, V, E.length, envC E⟩) (own_base hx hb) (fun x hx => hf x (hz x hx))
  have h2' : Own w3 (r + 1) ((Z ++ [⟨9, 1, V, E.length, envC E⟩]) ++ L.casts.map WtL.rw) := by simpa using h2
  have h22 := h2'.add (r := ⟨92, 3, .slice none 0 0, 0, []⟩) (World.ownsRow_nil _ _ _ _) (fun x hx => (Ap.nil x.v).symm)
  have h3 : Own w4 (r + 1) ([] ++ rowF { L with fns := L.fns ++ [⟨V, ⟨E, f, t, []⟩, .slice none 0 0⟩], fv := V' } :: (rowC L :: rowN L :: rowT L :: rowY L :: (L.fns.flatMap FuL.rws ++ ⟨9, 1, V, E.length, envC E⟩ :: ⟨92, 3, .slice none 0 0, 0, []⟩ :: L.casts.map WtL.rw))) := by
    refine Own.touch (w := w3) (r := rowF L) ?_ ht (by simpa [rowF, FuL.cells] using ho)
    rw [← hZ] at h22
    simpa using h22
  refine ⟨(h.far (rowF_in L) ht).set_ 0 V', ?_⟩
  refine RBt.low ?_ 0 V'
  have e : CoL.rws { L with fns := L.fns ++ [⟨V, ⟨E, f, t, []⟩, .slice none 0 0⟩], fv := V' } = [] ++ rowF { L with fns := L.fns ++ [⟨V, ⟨E, f, t, []⟩, .slice none 0 0⟩], fv := V' } :: (rowC L :: rowN L :: rowT L :: rowY L :: (L.fns.flatMap FuL.rws ++ ⟨9, 1, V, E.length, envC E⟩ :: ⟨92, 3, .slice none 0 0, 0, []⟩ :: L.casts.map WtL.rw)) := by
    rw [rws_eq]; simp [rowC, rowN, rowT, rowY, rowR, FuL.rws, codC]
  rw [e]; exact h3
theorem RBt.ins {i : In} (h : RBt w3 r L st) (hL : L.fns = F0 ++ [g]) (hv : L.fv = .slice (some ⟨gF, 0, none⟩) L.fns.length cF) (ht : Tch w3 w4 g.cv.ownBlock V'.ownBlock)
    (ho : w4.ownsRow (r + 1) 92 3 V' (g.f.code.length + 1) (codC g.f.code ++ inC i)) :
    RBt (w4.setCell ⟨gF, F0.length * 4 + 3, none⟩ V') r { L with fns := F0 ++ [⟨g.ev, { g.f with code := g.f.code ++ [i] }, V'⟩] } st := by
  obtain ⟨g', hg'⟩ : ∃ g', (⟨g.ev, { g.f with code := g.f.code ++ [i] }, V'⟩ : FuL) = g' := ⟨_, rfl⟩
  have hgl : F0.length + 1 = L.fns.length := by rw [hL]; simp
  have h1 : Own w3 (r + 1) ((rowF L :: rowC L :: rowN L :: rowT L :: rowY L :: (F0.flatMap FuL.rws ++ [⟨9, 1, g.ev, g.f.env.length, envC g.f.env⟩])) ++ ⟨92, 3, g.cv, g.f.code.length, codC g.f.code⟩ :: L.casts.map WtL.rw) := by
    have := h.own
    rw [rws_eq] at this
    simpa [rowR, hL, FuL.rws] using this
  have h2 := h1.touch (r' := ⟨92, 3, V', g.f.code.length + 1, codC g.f.code ++ inC i⟩) ht ho
  have h3 : Own w4 (r + 1) ([] ++ rowF L :: ((rowC L :: rowN L :: rowT L :: rowY L :: (F0.flatMap FuL.rws ++ [⟨9, 1, g.ev, g.f.env.length, envC g.f.env⟩])) ++ ⟨92, 3, V', g.f.code.length + 1, codC g.f.code ++ inC i⟩ :: L.casts.map WtL.rw)) := by
    simpa using h2
  have h4 := h3.set1 (g := gF) (c := cF) (j := F0.length * 4 + 3) (v := V') hv (by show _ < L.fns.length * 4; omega)
  have hk : Blk w4 r 123 #[L.fv, L.cv, L.nv, L.tv, L.yv, .int .i64 st] := by
    have hm : (⟨92, 3, g.cv, g.f.code.length, codC g.f.code⟩ : Rw) ∈ L.rws := by rw [rws_eq]; simp [rowR, hL, FuL.rws]
    exact h.far hm ht
  have hgF : r + 1 ≤ gF := by
    have := h.own.lt (rowF_in L) gF (by show L.fv.ownBlock = _; rw [hv]; rfl)
    exact this.1
  refine ⟨hk.far (show r ≠ gF by omega) V', ?_⟩
  have e : CoL.rws { L with fns := F0 ++ [g'] } = [] ++ rowF { L with fns := F0 ++ [g'] } :: ((rowC L :: rowN L :: rowT L :: rowY L :: (F0.flatMap FuL.rws ++ [⟨9, 1, g.ev, g.f.env.length, envC g.f.env⟩])) ++ ⟨92, 3, V', g.f.code.length + 1, codC g.f.code ++ inC i⟩ :: L.casts.map WtL.rw) := by
    rw [rws_eq, ← hg']; simp [rowC, rowN, rowT, rowY, rowR, FuL.rws, codC, inC]
  have e2 : ({ rowF L with xs := (rowF L).xs.set (F0.length * 4 + 3) V' } : Rw) = rowF { L with fns := F0 ++ [g'] } := by
    simp only [rowF, hL, List.flatMap_append, List.flatMap_cons, List.flatMap_nil, List.append_nil, List.length_append, List.length_singleton, ← hg']
    rw [show FuL.cells g = [g.ev, strV g.f.param, strV g.f.res, g.cv] from rfl, fl_set]
    rfl
  rw [hg', e]
  rw [e2] at h4
  exact h4
theorem RBt.ins_apart (h : RBt w r L st) (hL : L.fns = F0 ++ [g]) (hv : L.fv.ownBlock = some gF) : g.cv.ownBlock ≠ some gF := by
  have h1 := h.own.ap
  rw [rws_eq] at h1
  have h2 := (List.pairwise_cons.1 h1).1 (⟨92, 3, g.cv, g.f.code.length, codC g.f.code⟩ : Rw) (by simp [rowR, hL, FuL.rws])
  exact h2 gF hv
end
/-- A line's words in memory, apart from what the reader holds. -/
structure Wds (w : World) (r : Nat) (L : CoL) (bw : Nat) (ws : List Bs) : Prop where
  cell : ∀ j x, ws[j]? = some x → w.cell? ⟨bw, j, none⟩ = some (strV x)
  lt : bw < w.heap.size
  far : r < bw
  ap : ∀ x ∈ L.rws, x.v.ownBlock ≠ some bw
  len : ∀ x ∈ ws, x.length ≤ 1073741824
  num : ws.length ≤ 1073741825
theorem Wds.on {w w' : World} {r bw : Nat} {L : CoL} {ws : List Bs} (h : Wds w r L bw ws) (hb : w'.heap[bw]? = w.heap[bw]?) : Wds w' r L bw ws :=
  ⟨fun j x hx => (World.cell?_of_block (a := ⟨bw, j, none⟩) hb).trans (h.cell j x hx), lt_same hb h.lt, h.far, h.ap, h.len, h.num⟩
theorem Wds.grow {w w' : World} {r bw : Nat} {L : CoL} {ws : List Bs} (h : Wds w r L bw ws) (hb : Below w.heap.size w w') : Wds w' r L bw ws := h.on (hb.block bw h.lt)
theorem Wds.set {w : World} {r bw : Nat} {L : CoL} {ws : List Bs} (h : Wds w r L bw ws) (i : Nat) (v : Value) : Wds (w.setCell ⟨r, i, none⟩ v) r L bw ws := h.on (Below.heap_setCell _ _ _ _ (by have := h.far; simp only [ne_eq]; omega))
/-- One item more. -/
noncomputable def stepW (st : Nat × Cod) (ws : List Bs) : Option (Nat × Cod) := match rdItem ws with | some it => stepI st it | none => none
theorem stepV_cut (st : Nat × Cod) (s : Bs) : stepV st s = match cutW s with | some ws => stepW st ws | none => none := by
  unfold stepV lineV
  cases cutW s <;> rfl
/-- What a kind's method answers and leaves. -/
def LineA (r st B : Nat) (L : CoL) (ws : List Bs) (w : World) (e : Ending) (w' : World) : Prop :=
  (∃ ok, e = .returned (.bool ok) ∧ (ok = false → stepW (st, L.code) ws = none) ∧ (ok = true → ∃ L' st', stepW (st, L.code) ws = some (st', L'.code) ∧ RBt w' r L' st' ∧ LB L' (B + 1))) ∧ Below r w w'
theorem lineA_no {r st B : Nat} {L : CoL} {ws : List Bs} {w w' : World} (hn : stepW (st, L.code) ws = none) (hb : Below r w w') : LineA r st B L ws w (.returned (.bool false)) w' :=
  ⟨⟨false, rfl, fun _ => hn, fun h => by cases h⟩, hb⟩
theorem lineA_ok {r st B : Nat} {L L' : CoL} {ws : List Bs} {w w' : World} {st' : Nat} (hs : stepW (st, L.code) ws = some (st', L'.code)) (h2 : RBt w' r L' st') (h3 : LB L' (B + 1)) (hb : Below r w w') : LineA r st B L ws w (.returned (.bool true)) w' :=
  ⟨⟨true, rfl, (fun h => by cases h), fun _ => ⟨L', st', hs, h2, h3⟩⟩, hb⟩
theorem stepW_none {st : Nat × Cod} {ws : List Bs} (h : rdItem ws = none) : stepW st ws = none := by unfold stepW; rw [h]
theorem stepW_some {st : Nat × Cod} {ws : List Bs} {it : Item} (h : rdItem ws = some it) (h1 : isIns it = true → st.2.fns ≠ []) (h2 : st.1 ≤ stageI it) : stepW st ws = some (stageI it, addI st.2 it) := by
  unfold stepW; rw [h]; simp only; unfold stepI; rw [if_pos ⟨h1, h2⟩]
theorem stepW_late {st : Nat × Cod} {ws : List Bs} (h : ∀ it, rdItem ws = some it → ¬ st.1 ≤ stageI it) : stepW st ws = none := by
  unfold stepW
  rcases hr : rdItem ws with _ | it
  · rfl
  · simp only; unfold stepI; rw [if_neg fun h2 => h it hr h2.2]

set_option maxRecDepth 100000 in
theorem namesA_any (w : World) : Calls Tryz.prog 44 #[] w fun e w' => ∃ b, e = .returned (.slice (some ⟨b, 0, none⟩) 23 23) ∧ w.heap.size ≤ b ∧ b < w'.heap.size ∧ Below w.heap.size w w' ∧ ∀ j x, opNames[j]? = some x → w'.cell? ⟨b, j, none⟩ = some (strV x) := by
  have key : Calls Tryz.prog 44 #[] w fun e w' => e = .returned (.slice (some ⟨w.heap.size, 0, none⟩) 23 23) ∧ w' = w.alloc (.cells (opNames.map strV).toArray 9) := by
    go_enter Tryz.func44, Tryz.ntmps44
    go_wp2_with fail
    go_ret
    exact ⟨rfl, rfl⟩
  refine key.mono ?_
  rintro e w' ⟨rfl, rfl⟩
  refine ⟨_, rfl, Nat.le_refl _, by simp, bal b0 _, fun j x hx => ?_⟩
  rw [World.cell?_alloc_new]
  simp [hx]
theorem name_get {op : Int} (h : 1 ≤ op ∧ op ≤ 23) : opNames[op.toNat - 1]? = some (nameV op) := by
  rw [(nameV_in h).1]
  have hl : opNames.length = 23 := rfl
  rw [List.getD_eq_getElem?_getD, List.getElem?_eq_getElem (by omega)]; rfl
set_option maxRecDepth 100000 in
theorem nameA_any (op : Int) (w : World) (h0 : -128 ≤ op) (h1 : op ≤ 127) :
    Calls Tryz.prog 12 #[.int .i8 op] w fun e w' => e = .returned (strV (nameV op)) ∧ Below w.heap.size w w' := by
  have hn := namesA_any w
  go_enter Tryz.func12, Tryz.ntmps12
  go_wp2_with fail
  (refine hn.mono ?_); rintro ev w1 ⟨b, rfl, hb1, hb2, hb, hc⟩
  clear hn
  by_cases hlo : op < 1
  · have e0 : nameV op = [] := nameV_out (by omega)
    have HE := Lib.hid e0
    clear e0 hc
    go_wp2_with fail
    go_ret
    exact ⟨by rw [HE.out]; rfl, hb⟩
  by_cases hhi : 23 < op
  · have e0 : nameV op = [] := nameV_out (by omega)
    have HE := Lib.hid e0
    clear e0 hc
    go_wp2_with fail
    go_ret
    exact ⟨by rw [HE.out]; rfl, hb⟩
  have hg := hc _ _ (name_get (op := op) ⟨by omega, by omega⟩)
  obtain ⟨k, hk⟩ : ∃ k, op.toNat - 1 = k := ⟨_, rfl⟩
  rw [hk] at hg
  have ek : IntKind.i8.wrap (op - 1) = (k : Int) := by rw [i8_same (by omega) (by omega)]; omega
  have lk : (k : Int) < 23 := by omega
  have HH := Lib.hid hk
  have n1 : ¬ (op < 1) := hlo
  have n2 : ¬ ((23 : Int) < op) := hhi
  clear hk hc hlo hhi
  unfold strV at hg
  go_wp2_with fail
  go_ret
  exact ⟨rfl, hb⟩
/-- What the answer's look at an op returns. -/
def OpA (v : Option Int) (w : World) (e : Ending) (w' : World) : Prop :=
  ∃ (z : Int) (g : Bool), e = .returned (.tuple #[.int .i8 z, .bool g]) ∧ (-128 ≤ z ∧ z ≤ 127) ∧ g = v.isSome ∧ (∀ t, v = some t → z = t) ∧ Below w.heap.size w w'
theorem opA_none {v : Option Int} {z : Int} {w w' : World} (h : v = none) (hz : -128 ≤ z ∧ z ≤ 127) (hb : Below w.heap.size w w') : OpA v w (.returned (.tuple #[.int .i8 z, .bool false])) w' :=
  ⟨z, false, rfl, hz, (by rw [h]; rfl), (fun t ht => by rw [h] at ht; cases ht), hb⟩
theorem opA_some {v : Option Int} {z : Int} {w w' : World} (h : v = some z) (hz : -128 ≤ z ∧ z ≤ 127) (hb : Below w.heap.size w w') : OpA v w (.returned (.tuple #[.int .i8 z, .bool true])) w' :=
  ⟨z, true, rfl, hz, (by rw [h]; rfl), (fun t ht => by rw [h] at ht; injection ht), hb⟩
theorem findN_get {w x : Bs} {k : Nat} (h : opNames[k]? = some x) : findN w (opNames.drop k) (k + 1) = if x = w then some (k + 1) else findN w (opNames.drop (k + 1)) (k + 1 + 1) := by
  have hl : k < opNames.length := (List.getElem?_eq_some_iff.1 h).1
  rw [List.drop_eq_getElem_cons hl, (List.getElem?_eq_some_iff.1 h).2, findN]
theorem opV_hash {w r : Bs} (h : findN w opNames 1 = none) (hw : w = 35 :: r) : opV w = match numB (-128) 127 r with | some n => if nameV n = [] then some n else none | none => none := by
  unfold opV
  rw [h, hw]
  rfl
theorem opV_nohash {w : Bs} (h : findN w opNames 1 = none) (hw : ∀ r, w ≠ 35 :: r) : opV w = none := by
  unfold opV
  rw [h]
  simp only
theorem numB_nil (lo hi : Int) : numB lo hi [] = none := by
  rcases h : numB lo hi [] with _ | v
  · rfl
  · exact absurd (numB_some h).1 itoa_ne
set_option maxRecDepth 100000 in
set_option maxHeartbeats 4000000 in
theorem opA_any (s : Bs) (w : World) (hl : s.length ≤ 1073741824) :
    Calls Tryz.prog 144 #[strV s] w fun e w' => OpA (opV s) w e w' := by
  have hn := namesA_any w
  have hsz := str_size s
  unfold strV
  go_enter Tryz.func144, Tryz.ntmps144
  go_wp2_with fail
  (refine hn.mono ?_); rintro ev w1 ⟨b, rfl, hb1, hb2, hb, hc⟩
  have HC := Lib.hid (And.intro hb hc)
  clear hn hc hb hb1 hb2
  go_wp2_with fail
  go_loopg [5] 23 (fun g i wr => ∃ k : Nat, k ≤ 23 ∧ g = 23 - k ∧ i = .int .i64 k ∧ Hid (findN s opNames 1 = findN s (opNames.drop k) (k + 1)) ∧ wr = w1)
  case atStart => exact ⟨0, by omega, rfl, rfl, Lib.hid rfl, rfl⟩
  case round =>
    obtain ⟨k, hk, rfl, rfl, HF, rfl⟩ := hrel
    by_cases hlt : k < 23
    · obtain ⟨x, hx⟩ : ∃ x, opNames[k]? = some x := ⟨_, List.getElem?_eq_getElem (show k < opNames.length from hlt)⟩
      have hcell := HC.out.2 k x hx
      have g1 : (k : Int) < 23 := by omega
      have hstep := findN_get (w := s) hx
      unfold strV at hcell
      by_cases hxw : x = s
      · subst hxw
        have HV := Lib.hid (show opV x = some ((k + 1 : Nat) : Int) by
          unfold opV; rw [HF.out, hstep, if_pos rfl])
        have wk : IntKind.i64.wrap ((k : Int) + 1) = ((k + 1 : Nat) : Int) := by rw [IntWalk.i64_in _ ⟨by omega, by omega⟩]; omega
        have wk8 : IntKind.i8.wrap ((k + 1 : Nat) : Int) = ((k + 1 : Nat) : Int) := i8_same (by omega) (by omega)
        have wk9 : IntKind.i8.wrap ((k : Int) + 1) = (k : Int) + 1 := i8_same (by omega) (by omega)
        clear hx hstep
        go_wp2_with fail
        go_ret2
        exact opA_some (z := ((k + 1 : Nat) : Int)) HV.out (by omega) HC.out.1
      · have HF2 := Lib.hid (show findN s opNames 1 = findN s (opNames.drop (k + 1)) (k + 1 + 1) by rw [HF.out, hstep, if_neg hxw])
        have e1 : (x == s) = false := by simpa using hxw
        clear hx hstep
        go_wp2_with fail
        go_roundg (23 - (k + 1))
        case measure => omega
        case rel => exact ⟨k + 1, by omega, rfl, by go_num, HF2, rfl⟩
    · obtain rfl : k = 23 := by omega
      have hno : findN s opNames 1 = none := by rw [HF.out]; rfl
      clear HF
      by_cases h2 : s.length < 2
      · have HN := Lib.hid (show opV s = none by
          rcases hs : s with _ | ⟨c, r⟩
          · exact opV_nohash (by rw [← hs]; exact hno) (fun r => by simp)
          · have hr : r = [] := List.eq_nil_of_length_eq_zero (by rw [hs] at h2; simp only [List.length_cons] at h2; omega)
            subst hr
            by_cases h35 : c = 35
            · subst h35
              rw [opV_hash (by rw [← hs]; exact hno) rfl, numB_nil]
            · exact opV_nohash (by rw [← hs]; exact hno) (fun r h => h35 (by injection h)))
        have g2 : (s.length : Int) < 2 := by omega
        clear hno h2
        go_wp2_with fail
        go_ret2
        exact opA_none HN.out (by omega) HC.out.1
      · obtain ⟨c, r, hs⟩ : ∃ c r, s = c :: r := by cases s with | nil => simp at h2 | cons c r => exact ⟨c, r, rfl⟩
        have hx0 : s[0]? = some c := by rw [hs]; rfl
        have hk0 : 0 < (⟨s.toArray⟩ : ByteArray).size := by rw [hsz]; omega
        have at0 := str_at hx0 hk0
        have hls : s.length = r.length + 1 := by rw [hs]; rfl
        have hc255 := c.toNat_lt
        by_cases h35 : c = 35
        · subst h35
          have e35 : (((35 : UInt8).toNat : Int) != 35) = false := by decide
          have hV := opV_hash hno hs
          have hext := ext_at s 1 (r.length + 1)
          rw [show (s.drop 1).take (r.length + 1 - 1) = r by rw [hs]; simp] at hext
          rw [hls] at hsz h2
          have g2 : ¬ ((r.length : Int) + 1 < 2) := by omega
          have g0 : (0 : Int) < (r.length : Int) + 1 := by omega
          have g3 : (1 : Int) ≤ (r.length : Int) + 1 := by omega
          have hNu := Lib.hid (numberA_any r (-128) 127 wr (by omega))
          have HV := Lib.hid hV
          clear hno hs hx0 hls hV h2
          unfold strV at hNu
          go_wp2_with fail
          (refine hNu.out.mono ?_); rintro ev w2 ⟨z, g, rfl, hz, hg, hv, rfl⟩
          cases g with
          | false =>
            have HN := Lib.hid (show opV s = none by rw [HV.out, isNone hg])
            clear hg hv hz hNu
            go_wp2_with fail
            go_ret2
            exact opA_none HN.out (wrap_i8 _) HC.out.1
          | true =>
            have ht := isSome hg hv
            obtain ⟨h0, h1⟩ := (numB_some ht).2.2
            rw [ht] at HV
            have wz : IntKind.i8.wrap z = z := i8_same h0 h1
            have hNa := Lib.hid (nameA_any z wr h0 h1)
            have HZ := Lib.hid (And.intro h0 h1)
            clear hg hv hz hNu ht h0 h1
            unfold strV at hNa
            go_wp2_with fail
            (refine hNa.out.mono ?_); rintro ev w3 ⟨rfl, hb3⟩
            have HB3 := Lib.hid (bl HC.out.1 hb3)
            clear hb3
            by_cases hnm : nameV z = []
            · have HN := Lib.hid (show opV s = some z by rw [HV.out, if_pos hnm])
              rw [hnm]
              clear hnm HV
              go_wp2_with fail
              go_ret2
              exact opA_some HN.out HZ.out HB3.out
            · have HN := Lib.hid (show opV s = none by rw [HV.out, if_neg hnm])
              obtain ⟨nn, hnn⟩ : ∃ nn, nameV z = nn := ⟨_, rfl⟩
              rw [hnn] at hnm ⊢
              have e9 : (nn == []) = false := by simpa using hnm
              clear HV hnn
              go_wp2_with fail
              go_ret2
              exact opA_none HN.out HZ.out HB3.out
        · have e35 : ((c.toNat : Int) != 35) = true := by
            have : c.toNat ≠ 35 := fun e => h35 (UInt8.toNat_inj.1 e)
            simp; omega
          have HN := Lib.hid (opV_nohash hno (fun r' h => h35 (by rw [hs] at h; injection h)))
          have g2 : ¬ ((s.length : Int) < 2) := by omega
          have g0 : (0 : Int) < (s.length : Int) := by omega
          clear hno hs hx0 hls h2 h35
          go_wp2_with fail
          go_ret2
          exact opA_none HN.out (by omega) HC.out.1
end Go.Proofs.YtobplngonkdbpaaGreatDoor.D
