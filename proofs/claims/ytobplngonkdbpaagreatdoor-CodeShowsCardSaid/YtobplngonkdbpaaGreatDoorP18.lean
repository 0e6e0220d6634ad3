/- Parts of this claim: CfE. -/
import Derived.Test.YtobplngonkdbpaaGreatDoorP11
set_option linter.unusedVariables false
set_option linter.unusedSimpArgs false
/- CfE -/
namespace Go.Proofs.YtobplngonkdbpaaGreatDoor.D
open Go.RowKit
open Go.Proofs.YtobplngonkdbpaaGreatDoor.B
set_option linter.unusedVariables false
set_option linter.unusedSimpArgs false
noncomputable def fnIt (es : List Bs) (p q : Bs) : Option Item := match allV unq es, unq p, unq q with
 | some e, some p, some q => some (.fn e p q)
 | _, _, _ => none
theorem rdFn_eq (es : List Bs) (p q : Bs) : rdFn (es ++ [[58], p, q]) = fnIt es p q := by
 unfold rdFn fnIt
 have hl : (es ++ [[58], p, q]).length = es.length + 3 := by simp
 rw [hl]
 have h1 : (es ++ [[58], p, q])[es.length + 3 - 3]? = some [58] := by
  rw [List.getElem?_append_right (by simp)]; simp
 have h2 : (es ++ [[58], p, q]).getD (es.length + 3 - 2) [] = p := by
  rw [List.getD_eq_getElem?_getD, List.getElem?_append_right (by simp)]; simp [show es.length + 3 - 2 - es.length = 1 by omega]
 have h3 : (es ++ [[58], p, q]).getD (es.length + 3 - 1) [] = q := by
  rw [List.getD_eq_getElem?_getD, List.getElem?_append_right (by simp)]; simp [show es.length + 3 - 1 - es.length = 2 by omega]
 have h4 : (es ++ [[58], p, q]).take (es.length + 3 - 3) = es := by
  rw [show es.length + 3 - 3 = es.length by omega, List.take_left']; rfl
 rw [h1, h2, h3, h4, if_neg (by simp)]; (try rfl)
theorem fnIt_is (es : List Bs) (p q : Bs) : (fnIt es p q).isSome = ((unq p).isSome && (unq q).isSome && (allV unq es).isSome) := by
 unfold fnIt
 rcases unq p with _ | a <;> rcases unq q with _ | b <;> rcases allV unq es with _ | l <;> rfl
theorem fnIt_some {p q p' q' : Bs} {es E : List Bs} (hp : ∀ v, unq p = some v -> p' = v) (hq : ∀ v, unq q = some v -> q' = v) (he : ∀ l, allV unq es = some l -> E = l) (i : Item) (h : fnIt es p q = some i) : i = .fn E p' q' := by
 unfold fnIt at h
 rcases h3 : allV unq es with _ | l
 · rw [h3] at h; cases h
 rcases h1 : unq p with _ | a
 · rw [h3, h1] at h; cases h
 rcases h2 : unq q with _ | b
 · rw [h3, h1, h2] at h; cases h
 rw [h3, h1, h2] at h
 injection h with h
 rw [<- h, hp a h1, hq b h2, he l h3]
noncomputable def insIt (o a b : Bs) : Option Item := match opV o, numV a, numV b with
 | some o, some a, some b => some (.ins o a b)
 | _, _, _ => none
theorem insIt_is (o a b : Bs) : (insIt o a b).isSome = ((opV o).isSome && (numV a).isSome && (numV b).isSome) := by
 unfold insIt
 rcases opV o with _ | x <;> rcases numV a with _ | y <;> rcases numV b with _ | z <;> rfl
theorem insIt_some {o a b : Bs} {o' a' b' : Int} (ho : ∀ v, opV o = some v -> o' = v) (ha : ∀ v, numV a = some v -> a' = v) (hb : ∀ v, numV b = some v -> b' = v) (i : Item) (h : insIt o a b = some i) : i = .ins o' a' b' := by
 unfold insIt at h
 rcases h1 : opV o with _ | x
 · rw [h1] at h; cases h
 rcases h2 : numV a with _ | y
 · rw [h1, h2] at h; cases h
 rcases h3 : numV b with _ | z
 · rw [h1, h2, h3] at h; cases h
 rw [h1, h2, h3] at h
 injection h with h
 rw [<- h, ho x h1, ha y h2, hb z h3]
/-- One cell of a row of one's own is written. -/
theorem own_set1 {w : World} {base e sz n g c j : Nat} {xs : List Value} {v : Value} (h : w.ownsRow base e sz (.slice (some ⟨g, 0, none⟩) n c) n xs) (hj : j < n * sz) :
  (w.setCell ⟨g, j, none⟩ v).ownsRow base e sz (.slice (some ⟨g, 0, none⟩) n c) n (xs.set j v) := by
 refine ⟨by rw [List.length_set]; exact h.1, ?_⟩
 rcases h.2 with ⟨h0, _⟩ | ⟨g', cap, cur, hv, hbg, hg, hcap, hmax, hcs, ht⟩
 · cases h0
 ·
  injection hv with h1 h2 h3
  injection h1 with h1
  injection h1 with h1
  subst h1 h3
  refine .inr ⟨g, c, cur.setIfInBounds j v, rfl, hbg, ?_, hcap, hmax, by simpa using hcs, ?_⟩
  · exact Blk.set_ (t := e) hg j v
  · rw [Array.toList_setIfInBounds, List.take_set, ht]
theorem own_blk {w : World} {base e sz n g : Nat} {v : Value} {xs : List Value} (h : w.ownsRow base e sz v n xs) (hv : v.ownBlock = some g) : ∃ cur, Blk w g e cur := by
 rcases h.2 with ⟨rfl, _⟩ | ⟨g', cap, cur, rfl, _, hg, _⟩
 · cases hv
 · injection hv with hv; subst hv; exact ⟨cur, hg⟩
theorem Own.set1 {w : World} {base g c j : Nat} {A Bl : List Rw} {x : Rw} {v : Value} (h : Own w base (A ++ x :: Bl)) (hx : x.v = .slice (some ⟨g, 0, none⟩) x.n c) (hj : j < x.n * x.sz) :
  Own (w.setCell ⟨g, j, none⟩ v) base (A ++ { x with xs := x.xs.set j v } :: Bl) := by
 have hb := but_set (C := fun k => k = g) (But.refl _ w) (b := g) (i := j) rfl v
 have ho := h.own x (by simp)
 refine h.touch (r := x) (r' := { x with xs := x.xs.set j v }) (.inl ⟨rfl, ⟨hb.os, hb.tape, hb.output, hb.size, fun k hk hne => hb.block k hk fun e => hne (by rw [hx, e]; rfl)⟩⟩) ?_
 rw [hx] at ho
 have := own_set1 (v := v) ho hj
 simpa only [hx] using this
theorem fl_len : ∀ l : List FuL, (l.flatMap FuL.cells).length = l.length * 4
 | [] => rfl
 | g :: l => by rw [List.flatMap_cons, List.length_append, fl_len l, List.length_cons]; simp [FuL.cells]; omega
theorem fl_set (l : List FuL) (a b c d v : Value) : (l.flatMap FuL.cells ++ [a, b, c, d]).set (l.length * 4 + 3) v = l.flatMap FuL.cells ++ [a, b, c, v] := by
 rw [List.set_append_right _ _ (by rw [fl_len]; omega), fl_len, show l.length * 4 + 3 - l.length * 4 = 3 by omega]; rfl
section
variable {w w3 w4 : World} {r st B b : Nat} {L : CoL} {V V' : Value} {F0 : List FuL} {g : FuL} {i : In} {gF cF : Nat}
/-- An instruction more in the last function. -/
theorem RAt.ins (h : RAt w3 r L st) (hL : L.fns = F0 ++ [g]) (hv : L.fv = .slice (some ⟨gF, 0, none⟩) L.fns.length cF) (ht : Tch w3 w4 g.cv.ownBlock V'.ownBlock)
  (ho : w4.ownsRow (r + 1) 92 3 V' (g.f.code.length + 1) (codC g.f.code ++ inC i)) :
  RAt (w4.setCell ⟨gF, F0.length * 4 + 3, none⟩ V') r { L with fns := F0 ++ [⟨g.ev, { g.f with code := g.f.code ++ [i] }, V'⟩] } st := by
 obtain ⟨g', hg'⟩ : ∃ g', (⟨g.ev, { g.f with code := g.f.code ++ [i] }, V'⟩ : FuL) = g' := ⟨_, rfl⟩
 have hgl : F0.length + 1 = L.fns.length := by rw [hL]; simp
 have h1 : Own w3 (r + 1) ((rowF L :: rowC L :: rowN L :: rowT L :: rowY L :: (F0.flatMap FuL.rws ++ [⟨9, 1, g.ev, g.f.env.length, envC g.f.env⟩])) ++ ⟨92, 3, g.cv, g.f.code.length, codC g.f.code⟩ :: L.casts.map WtL.rw) := by
  have := h.own
  rw [rws_eq] at this
  simpa [rowR, hL, FuL.rws] using this
 have h2 := h1.touch (r' := ⟨92, 3, V', g.f.code.length + 1, codC g.f.code ++ inC i⟩) ht ho
 have h3 : Own w4 (r + 1) ([] ++ rowF L :: ((rowC L :: rowN L :: rowT L :: rowY L :: (F0.flatMap FuL.rws ++ [⟨9, 1, g.ev, g.f.env.length, envC g.f.env⟩])) ++ ⟨92, 3, V', g.f.code.length + 1, codC g.f.code ++ inC i⟩ :: L.casts.map WtL.rw)) := by
  simpa using h2
 have h4 := h3.set1 (g := gF) (c := cF) (j := F0.length * 4 + 3) (v := V') hv (by show _ < L.fns.length * 4; omega)
 have hk : Blk w4 r 106 #[L.fv, L.cv, L.nv, L.tv, L.yv, .int .i64 st] := by
  have hm : (⟨92, 3, g.cv, g.f.code.length, codC g.f.code⟩ : Rw) ∈ L.rws := by rw [rws_eq]; simp [rowR, hL, FuL.rws]
  exact h.far hm ht
 have hgF : r + 1 <= gF := by
  have := h.own.lt (rowF_in L) gF (by show L.fv.ownBlock = _; rw [hv]; rfl)
  exact this.1
 refine ⟨hk.far (show r ≠ gF by omega) V', ?_⟩
 have e : CoL.rws { L with fns := F0 ++ [g'] } = [] ++ rowF { L with fns := F0 ++ [g'] } :: ((rowC L :: rowN L :: rowT L :: rowY L :: (F0.flatMap FuL.rws ++ [⟨9, 1, g.ev, g.f.env.length, envC g.f.env⟩])) ++ ⟨92, 3, V', g.f.code.length + 1, codC g.f.code ++ inC i⟩ :: L.casts.map WtL.rw) := by
  rw [rws_eq, <- hg']; simp [rowC, rowN, rowT, rowY, rowR, FuL.rws, codC, inC]
 have e2 : ({ rowF L with xs := (rowF L).xs.set (F0.length * 4 + 3) V' } : Rw) = rowF { L with fns := F0 ++ [g'] } := by
  simp only [rowF, hL, List.flatMap_append, List.flatMap_cons, List.flatMap_nil, List.append_nil, List.length_append, List.length_singleton, <- hg']
  rw [show FuL.cells g = [g.ev, strV g.f.param, strV g.f.res, g.cv] from rfl, fl_set]
  rfl
 rw [hg', e]
 rw [e2] at h4
 exact h4
theorem RAt.ins_row (hL : L.fns = F0 ++ [g]) : (⟨92, 3, g.cv, g.f.code.length, codC g.f.code⟩ : Rw) ∈ L.rws := by rw [rws_eq]; simp [rowR, hL, FuL.rws]
theorem RAt.ins_apart (h : RAt w r L st) (hL : L.fns = F0 ++ [g]) (hv : L.fv.ownBlock = some gF) : g.cv.ownBlock ≠ some gF := by
 have h1 := h.own.ap
 rw [rws_eq] at h1
 have h2 := (List.pairwise_cons.1 h1).1 (⟨92, 3, g.cv, g.f.code.length, codC g.f.code⟩ : Rw) (by simp [rowR, hL, FuL.rws])
 exact h2 gF hv
theorem anyF_c (cf : Nat) (s : Bs) (g : Bool) (w : World) (hl : s.length <= 1073741824) (hg : Gl w) (hb : Blk w cf 141 #[.bool g]) (h8 : 8 <= cf) :
  Calls Tryz.prog 102 #[.pointer (some ⟨cf, 0, none⟩), strV s] w fun e w' =>
   ∃ n, e = .returned (.int .i64 n) /\ inR n /\ (∀ v, numV s = some v -> n = v) /\ Blk w' cf 141 #[.bool (g && (numV s).isSome)] /\ But (fun k => k = cf) w w' := by
 have h := any_c cf s g w hl hg hb h8
 unfold NumQ at h
 simpa only [numB_all] using h
end
end Go.Proofs.YtobplngonkdbpaaGreatDoor.D
