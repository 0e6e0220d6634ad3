/- Parts of this claim: AoE. -/
import Derived.Deep.LoopGhost
import Derived.Deep.QuietTactic
import Derived.BigQuiet
import Derived.Laws.MakeOwn
import Derived.Deep.OwnRows
import Derived.Deep.MidRow
import Derived.Lib.LazyBuf
import Derived.Test.YtobplngonkdbpaaGreatDoorP34
import Derived.Test.YtobplngonkdbpaaGreatDoorP05
set_option linter.unusedVariables false
set_option linter.unusedSimpArgs false
/- AoE -/
namespace Go.Proofs.YtobplngonkdbpaaGreatDoor.D
open Go.RowKit
open Go.Proofs.YtobplngonkdbpaaGreatDoor.B
set_option linter.unusedVariables false
set_option linter.unusedSimpArgs false
theorem num9_any (n i : Int) (w : World) (h0 : 0 <= n) (h1 : n <= 1048576) (h2 : 0 <= i) (h3 : i <= 4611686018427387904) :
  Calls Tryz.prog 90 #[.int .i64 n, .int .i64 i] w fun e w' => e = .returned (.int .i64 (1048576 * n + i + 1)) /\ w = w' := by
 go_enter Tryz.func90, Tryz.ntmps90
 go_wp2
 go_ret
 exact ⟨rfl, rfl⟩
/-- 'make' of n elements and 64 more. -/
theorem make64 {P : Program} (t e : TypeId) (i : TypeInfo) (z : Value) (ht : P.underlying t = some (.slice e)) (hi : P.info? e = some i) (hz : i.zero = some z) (n : Nat) (hb : i.bytes * (n + 64) <= 281474976710656) (hn : n + 64 <= 9223372036854775807) (w : World) :
  (Instr.makeSlice t (.int .i64 ((n : Int) + 64)) (.int .i64 ((n : Int) + 64))).run P w = .ok (.slice (some ⟨w.heap.size, 0, none⟩) (n + 64) (n + 64)) (w.alloc (.cells (madeCells z.cells ((n + 64) * i.size)) e)) := by
 have h := run_make (P := P) w t e i z ht hi hz .i64 .i64 ((n : Int) + 64) ((n : Int) + 64) (by omega) (Int.le_refl _) (by
  have : ((i.bytes * (n + 64) : Nat) : Int) <= 281474976710656 := by omega
  rw [Int.natCast_mul] at this; simpa using this) (by omega)
 rw [show ((n : Int) + 64).toNat = n + 64 by omega] at h
 exact h
theorem row_there {w : World} {b : Nat} {t : TypeId} {N : Nat} {f : Nat -> Value} (h : w.rowIs b t N f) (o k : Nat) (hk : o + k <= N) : w.there b o k := fun j hj =>
 ⟨by rw [h.cell (i := o + j) (by omega)]; rfl, h.frozen _⟩
theorem flatL {α : Type} (f : α -> List Value) (sz : Nat) (hf : ∀ a, (f a).length = sz) : ∀ l : List α, (l.flatMap f).length = l.length * sz
 | [] => by simp
 | a :: l => by rw [List.flatMap_cons, List.length_append, hf, flatL f sz hf l, List.length_cons, Nat.succ_mul]; omega
section
variable {α : Type} {mk : Nat -> α} {l X : List α} {k sz N g n m B : Nat} {f : α -> List Value} {s : α} {W w : World} {e : TypeId} {q : Nat -> Value} {A : Option Addr} {xs ys : List Value}
/-- A list with its marks, whole. -/
def whole (mk : Nat -> α) (l : List α) : List α := l ++ (List.range 64).map fun j => mk (l.length + j)
theorem whole_len : (whole mk l).length = l.length + 64 := by simp [whole]
theorem whole_lo (h : k < l.length) : (whole mk l)[k]? = l[k]? := by unfold whole; rw [List.getElem?_append_left h]
theorem whole_hi (h : l.length <= k) (h2 : k < l.length + 64) : (whole mk l)[k]? = some (mk k) := by
 unfold whole
 rw [List.getElem?_append_right h, List.getElem?_map, List.getElem?_range (by omega)]
 rw [Option.map_some, show l.length + (k - l.length) = k by omega]
theorem row_step (hsz : ∀ x, (f x).length = sz) (h : ∀ j, j < k * sz -> q j = (X.flatMap f).getD j default) (hs : X[k]? = some s) :
  ∀ j, j < (k + 1) * sz -> (if k * sz <= j /\ j < k * sz + (f s).length then (f s)[j - k * sz]?.getD default else q j) = (X.flatMap f).getD j default := by
 intro j hj
 have hl := hsz s
 have he : (k + 1) * sz = k * sz + sz := Nat.succ_mul k sz
 by_cases h1 : j < k * sz
 · rw [if_neg (by omega)]; exact h j h1
 ·
  rw [if_pos (by omega)]
  have := flat_at f sz hsz X k (j - k * sz) s hs (by omega)
  rw [show k * sz + (j - k * sz) = j by omega] at this
  rw [List.getD_eq_getElem?_getD, this]
theorem row_step1 {v : Value} (h : ∀ j, j < k -> q j = ys.getD j default) (hs : ys[k]? = some v) : ∀ j, j < k + 1 -> (if j = k then v else q j) = ys.getD j default := by
 intro j hj
 by_cases e : j = k
 · rw [if_pos e, e, List.getD_eq_getElem?_getD, hs]; rfl
 · rw [if_neg e]; exact h j (by omega)
theorem row_sl {M : Nat} (h : W.rowIs g e M q) (hl : ys.length = N * sz) (hM : N * sz <= M) (hq : ∀ j, j < N * sz -> q j = ys.getD j default) : Sl W W.heap.size sz (some ⟨g, 0, none⟩) N ys := by
 refine ⟨hl, .inr ⟨g, 0, rfl, h.lt, fun j u hu => ?_⟩⟩
 have hj : j < N * sz := by have := (List.getElem?_eq_some_iff.1 hu).1; omega
 rw [Nat.zero_add, h.cell (by omega), hq j hj, List.getD_eq_getElem?_getD, hu]; rfl
theorem sl_front (h : Sl w B sz A (n + m) (xs ++ ys)) (hx : xs.length = n * sz) : Sl w B sz A n xs := by
 refine ⟨hx, ?_⟩
 rcases h.2 with h0 | ⟨b, o, rfl, hb, hc⟩
 · exact .inl (by omega)
 ·
  refine .inr ⟨b, o, rfl, hb, fun j u hu => hc j u ?_⟩
  rw [List.getElem?_append_left (List.getElem?_eq_some_iff.1 hu).1]; exact hu
theorem whole_flat : (whole mk l).flatMap f = l.flatMap f ++ ((List.range 64).map fun j => mk (l.length + j)).flatMap f := by unfold whole; rw [List.flatMap_append]
/-- A list with marks, as it came out of a WideX: n elements at the head of a block, 64 marks behind. -/
def Wd (W : World) (sz : Nat) (v : Value) (n : Nat) (xs : List Value) : Prop := ∃ b, v = .slice (some ⟨b, 0, none⟩) n (n + 64) /\ Sl W W.heap.size sz (some ⟨b, 0, none⟩) (n + 64) xs
theorem Wd.rs {v : Value} (hsz : ∀ x, (f x).length = sz) (h : Wd W sz v n ((whole mk l).flatMap f)) (hn : l.length = n) (hm : n + 64 <= maxLen) : Rs W sz v n (l.flatMap f) := by
 obtain ⟨b, e, s⟩ := h
 rw [whole_flat] at s
 exact ⟨_, _, e, by omega, hm, sl_front s (by rw [flatL f sz hsz, hn])⟩
end
theorem below_cells {B b : Nat} {a : World} (hb : B <= b) (vs : List Value) (o : Nat) (w : World) (h : Below B a w) : Below B a (w.setCells b o vs) := _root_.Go.below_setCells hb vs o w h
/-! ### The marks -/
def mkL (i : Nat) : Int := 9437184 + (i : Int) + 1
def mkT (i : Nat) : Bs := (T.tmark i).data.toList
def mkI (i : Nat) : In := ⟨0, mkL i, 0⟩
def mkC (i : Nat) : Nd := ⟨0, 0, false, 0, mkL i, 0, 0⟩
theorem in3 : ∀ x, (inC x).length = 3 := fun _ => rfl
theorem ndl7 : ∀ x, (ndC x).length = 7 := fun _ => rfl
theorem in_one (s : In) : ∀ v ∈ inC s, v.oneCell' = true := by
 intro u hs
 simp only [inC, List.mem_cons, List.not_mem_nil, or_false] at hs
 rcases hs with rfl | rfl | rfl <;> rfl
theorem nd_one (s : Nd) : ∀ v ∈ ndC s, v.oneCell' = true := by
 intro u hs
 simp only [ndC, List.mem_cons, List.not_mem_nil, or_false] at hs
 rcases hs with rfl | rfl | rfl | rfl | rfl | rfl | rfl <;> rfl
theorem hin3 : (Tryz.prog.info? 92).map (·.size) = some 3 := by kernel_rfl
theorem hin7 : (Tryz.prog.info? 86).map (·.size) = some 7 := by kernel_rfl
theorem map1 {α : Type} (f : α -> Value) (l : List α) : l.map f = l.flatMap fun x => [f x] := by induction l with | nil => rfl | cons a l ih => simp [ih]
set_option maxRecDepth 100000 in
set_option maxHeartbeats 1000000 in
theorem wideLongs_any (l : List Int) (N : Nat) (A : Option Addr) (c : Nat) (w : World) (hN : l.length = N) (hl : N <= 16777216) (hA : Sl w w.heap.size 1 A N (numC l)) :
  Calls Tryz.prog 29 #[.slice A N c] w fun e w' => e = .returned (.slice (some ⟨w.heap.size, 0, none⟩) N (N + 64)) /\ Sl w' w'.heap.size 1 (some ⟨w.heap.size, 0, none⟩) (N + 64) (numC (whole mkL l)) /\ Below w.heap.size w w' := by
 obtain ⟨i0, hi0, hz0, hz1, hz2⟩ := info_parts infoL
 have hmk := fun W => make64 (P := Tryz.prog) 24 2 i0 (.int .i64 0) Tryz.underlying24 hi0 hz0 N (by rw [hz2]; omega) (by omega) W
 rw [hz1] at hmk
 obtain ⟨C, hC⟩ : ∃ C, madeCells (Value.cells (.int .i64 0)) ((N + 64) * 1) = C := ⟨_, rfl⟩
 rw [hC] at hmk
 have hCs : C.size = (N + 64) * 1 := by rw [<- hC]; exact size_madeCells _ _
 have HC := Lib.hid hCs
 have HA := Lib.hid (And.intro hA hN)
 obtain ⟨L, hL⟩ : ∃ L, numC (whole mkL l) = L := ⟨_, rfl⟩
 have hLl : L.length = (N + 64) * 1 := by rw [<- hL]; simp [numC, whole_len, HA.out.2]
 have HL := Lib.hid (And.intro hL hLl)
 rw [hL]
 clear hC hCs hA hN hL hLl
 go_enter Tryz.func29, Tryz.ntmps29
 go_wp2_with fail
 clear hmk
 go_loopg [4] (N + 64) (fun g i wr => ∃ k : Nat, k <= N + 64 /\ g = N + 64 - k /\ i = .int .i64 k /\ Below w.heap.size w wr /\
  ∃ f, wr.rowIs w.heap.size 2 ((N + 64) * 1) f /\ Hid (∀ j, j < k * 1 -> f j = L.getD j default))
 case atStart =>
  refine ⟨0, by omega, rfl, rfl, bal (Below.refl _ _) _, fun j => C.getD j default, ?_, Lib.hid fun j hj => by omega⟩
  rw [<- HC.out]
  exact World.rowIs_alloc _ _ _ _ fun i hi => by simp [hi]
 case round =>
  obtain ⟨k, hk, rfl, rfl, hb, f, hf, HF⟩ := hrel
  by_cases h1 : k < N + 64
  ·
   by_cases h2 : k < N
   ·
    obtain ⟨x, hx⟩ : ∃ x, l[k]? = some x := ⟨_, List.getElem?_eq_getElem (by rw [HA.out.2]; exact h2)⟩
    obtain ⟨b, o, rfl, hb1, hc1⟩ := (HA.out.1.below hb).at_ (by omega)
    have d0 : wr.cell? ⟨b, o + k, none⟩ = some (.int .i64 x) := hc1 k _ (by simp [numC, hx]; try rfl)
    have HV := Lib.hid (show L[k]? = some (.int .i64 x) by rw [<- HL.out.1, numC, List.getElem?_map, whole_lo (by rw [HA.out.2]; exact h2), hx]; rfl)
    have e0 := hf.cell (i := k) (by omega)
    have z0 := hf.frozen k
    clear hb1 hc1 hx
    go_wp2_with fail
    go_roundg (N + 64 - (k + 1))
    case measure => omega
    case rel => exact ⟨k + 1, by omega, rfl, by go_num, hb.setCell (p := ⟨w.heap.size, k, none⟩) (Nat.le_refl _) _, _, hf.set k _, Lib.hid (fun j hj => row_step1 (k := k) (fun j hj => HF.out j (by omega)) HV.out j (by omega))⟩
   ·
    have hnum := fun W => num9_any 9 k W (by omega) (by omega) (by omega) (by omega)
    have HV := Lib.hid (show L[k]? = some (.int .i64 (1048576 * 9 + (k : Int) + 1)) by rw [<- HL.out.1, numC, List.getElem?_map, whole_hi (by rw [HA.out.2]; omega) (by rw [HA.out.2]; exact h1)]; rfl)
    have e0 := hf.cell (i := k) (by omega)
    have z0 := hf.frozen k
    go_wp2_with fail
    refine (hnum _).mono ?_
    rintro e w2 ⟨rfl, rfl⟩
    go_wp2_with fail
    go_roundg (N + 64 - (k + 1))
    case measure => omega
    case rel => exact ⟨k + 1, by omega, rfl, by go_num, hb.setCell (p := ⟨w.heap.size, k, none⟩) (Nat.le_refl _) _, _, hf.set k _, Lib.hid (fun j hj => row_step1 (k := k) (fun j hj => HF.out j (by omega)) HV.out j (by omega))⟩
  ·
   go_wp2_with fail
   go_ret
   exact ⟨rfl, row_sl hf HL.out.2 (Nat.le_refl _) (fun j hj => HF.out j (by have : k = N + 64 := by omega
                                                                            subst this; exact hj)), hb⟩
set_option maxRecDepth 100000 in
set_option maxHeartbeats 1000000 in
theorem spareLongs_any (l : List Int) (N g : Nat) (w : World) (hN : l.length = N) (hl : N <= 16777216) (hA : Sl w w.heap.size 1 (some ⟨g, 0, none⟩) (N + 64) (numC (whole mkL l))) :
  Calls Tryz.prog 55 #[.slice (some ⟨g, 0, none⟩) N (N + 64)] w fun e w' => e = .returned (.bool true) /\ Below w.heap.size w w' := by
 have HA := Lib.hid (And.intro hA hN)
 clear hA hN
 go_enter Tryz.func55, Tryz.ntmps55
 go_wp2_with fail
 go_loopg [4] 64 (fun q i wr => ∃ k : Nat, N <= k /\ k <= N + 64 /\ q = N + 64 - k /\ i = .int .i64 k /\ Below w.heap.size w wr)
 case atStart => exact ⟨N, by omega, by omega, by omega, rfl, Below.refl _ _⟩
 case round =>
  obtain ⟨k, hk0, hk, rfl, rfl, hb⟩ := hrel
  by_cases h1 : k < N + 64
  ·
   obtain ⟨b, o, he, hb1, hc1⟩ := (HA.out.1.below hb).at_ (by omega)
   injection he with he
   injection he with he1 he2 _
   subst he1 he2
   have hx : (whole mkL l)[k]? = some (mkL k) := whole_hi (by rw [HA.out.2]; omega) (by rw [HA.out.2]; exact h1)
   have d0 : wr.cell? ⟨g, k, none⟩ = some (.int .i64 (1048576 * 9 + (k : Int) + 1)) := by have := hc1 k _ (by rw [numC, List.getElem?_map, hx]; rfl); rwa [Nat.zero_add] at this
   have hnum := fun W => num9_any 9 k W (by omega) (by omega) (by omega) (by omega)
   clear hb1 hc1 hx
   go_wp2_with fail
   refine (hnum _).mono ?_
   rintro e w2 ⟨rfl, rfl⟩
   go_wp2_with fail
   go_roundg (N + 64 - (k + 1))
   case measure => omega
   case rel => exact ⟨k + 1, by omega, by omega, rfl, by go_num, hb⟩
  ·
   go_wp2_with fail
   go_ret
   exact ⟨rfl, hb⟩
set_option maxRecDepth 100000 in
set_option maxHeartbeats 1000000 in
theorem wideTexts_any (l : List Bs) (N : Nat) (A : Option Addr) (c : Nat) (w : World) (hN : l.length = N) (hl : N <= 16777216) (hg : Gl w) (hA : Sl w w.heap.size 1 A N (envC l)) :
  Calls Tryz.prog 30 #[.slice A N c] w fun e w' => e = .returned (.slice (some ⟨w.heap.size, 0, none⟩) N (N + 64)) /\ Sl w' w'.heap.size 1 (some ⟨w.heap.size, 0, none⟩) (N + 64) (envC (whole mkT l)) /\ Below w.heap.size w w' := by
 obtain ⟨i0, hi0, hz0, hz1, hz2⟩ := info_parts info9
 have hmk := fun W => make64 (P := Tryz.prog) 25 9 i0 (.string ⟨#[]⟩) Tryz.underlying25 hi0 hz0 N (by rw [hz2]; omega) (by omega) W
 rw [hz1] at hmk
 obtain ⟨C, hC⟩ : ∃ C, madeCells (Value.cells (.string ⟨#[]⟩)) ((N + 64) * 1) = C := ⟨_, rfl⟩
 rw [hC] at hmk
 have hCs : C.size = (N + 64) * 1 := by rw [<- hC]; exact size_madeCells _ _
 have HC := Lib.hid hCs
 have HA := Lib.hid (And.intro hA hN)
 obtain ⟨L, hL⟩ : ∃ L, envC (whole mkT l) = L := ⟨_, rfl⟩
 have hLl : L.length = (N + 64) * 1 := by rw [<- hL]; simp [envC, whole_len, HA.out.2]
 have HL := Lib.hid (And.intro hL hLl)
 rw [hL]
 have HG := Lib.hid hg
 clear hC hCs hA hN hL hLl hg
 go_enter Tryz.func30, Tryz.ntmps30
 go_wp2_with fail
 clear hmk
 go_loopg [4] (N + 64) (fun g i wr => ∃ k : Nat, k <= N + 64 /\ g = N + 64 - k /\ i = .int .i64 k /\ Below w.heap.size w wr /\
  ∃ f, wr.rowIs w.heap.size 9 ((N + 64) * 1) f /\ Hid (∀ j, j < k * 1 -> f j = L.getD j default))
 case atStart =>
  refine ⟨0, by omega, rfl, rfl, bal (Below.refl _ _) _, fun j => C.getD j default, ?_, Lib.hid fun j hj => by omega⟩
  rw [<- HC.out]
  exact World.rowIs_alloc _ _ _ _ fun i hi => by simp [hi]
 case round =>
  obtain ⟨k, hk, rfl, rfl, hb, f, hf, HF⟩ := hrel
  by_cases h1 : k < N + 64
  ·
   by_cases h2 : k < N
   ·
    obtain ⟨x, hx⟩ : ∃ x, l[k]? = some x := ⟨_, List.getElem?_eq_getElem (by rw [HA.out.2]; exact h2)⟩
    obtain ⟨b, o, rfl, hb1, hc1⟩ := (HA.out.1.below hb).at_ (by omega)
    have d0 : wr.cell? ⟨b, o + k, none⟩ = some (.string ⟨x.toArray⟩) := hc1 k _ (by simp [envC, hx]; try rfl)
    have HV := Lib.hid (show L[k]? = some (.string ⟨x.toArray⟩) by rw [<- HL.out.1, envC, List.getElem?_map, whole_lo (by rw [HA.out.2]; exact h2), hx]; rfl)
    have e0 := hf.cell (i := k) (by omega)
    have z0 := hf.frozen k
    clear hb1 hc1 hx
    go_wp2_with fail
    go_roundg (N + 64 - (k + 1))
    case measure => omega
    case rel => exact ⟨k + 1, by omega, rfl, by go_num, hb.setCell (p := ⟨w.heap.size, k, none⟩) (Nat.le_refl _) _, _, hf.set k _, Lib.hid (fun j hj => row_step1 (k := k) (fun j hj => HF.out j (by omega)) HV.out j (by omega))⟩
   ·
    have hcall := Lib.hid (T.text_any k w wr (by omega) HG.out.tab hb)
    have HV := Lib.hid (show L[k]? = some (.string (T.tmark k)) by rw [<- HL.out.1, envC, List.getElem?_map, whole_hi (by rw [HA.out.2]; omega) (by rw [HA.out.2]; exact h1)]; rfl)
    generalize T.tmark k = m at HV hcall
    go_wp2_with fail
    refine hcall.out.mono ?_
    rintro e w2 ⟨rfl, hb2⟩
    have hf2 := hf.of_block (hb2.block _ hf.lt)
    have d1 := hf2.cell (i := k) (by omega)
    have z1 := hf2.frozen k
    go_wp2_with fail
    go_roundg (N + 64 - (k + 1))
    case measure => omega
    case rel => exact ⟨k + 1, by omega, rfl, by go_num, (bl hb hb2).setCell (p := ⟨w.heap.size, k, none⟩) (Nat.le_refl _) _, _, hf2.set k _, Lib.hid (fun j hj => row_step1 (k := k) (fun j hj => HF.out j (by omega)) HV.out j (by omega))⟩
  ·
   go_wp2_with fail
   go_ret
   exact ⟨rfl, row_sl hf HL.out.2 (Nat.le_refl _) (fun j hj => HF.out j (by have : k = N + 64 := by omega
                                                                            subst this; exact hj)), hb⟩
set_option maxRecDepth 100000 in
set_option maxHeartbeats 1000000 in
theorem spareTexts_any (l : List Bs) (N g : Nat) (w : World) (hN : l.length = N) (hl : N <= 16777216) (hg : Gl w) (hA : Sl w w.heap.size 1 (some ⟨g, 0, none⟩) (N + 64) (envC (whole mkT l))) :
  Calls Tryz.prog 56 #[.slice (some ⟨g, 0, none⟩) N (N + 64)] w fun e w' => e = .returned (.bool true) /\ Below w.heap.size w w' := by
 have HA := Lib.hid (And.intro hA hN)
 have HG := Lib.hid hg
 clear hA hN hg
 go_enter Tryz.func56, Tryz.ntmps56
 go_wp2_with fail
 go_loopg [4] 64 (fun q i wr => ∃ k : Nat, N <= k /\ k <= N + 64 /\ q = N + 64 - k /\ i = .int .i64 k /\ Below w.heap.size w wr)
 case atStart => exact ⟨N, by omega, by omega, by omega, rfl, Below.refl _ _⟩
 case round =>
  obtain ⟨k, hk0, hk, rfl, rfl, hb⟩ := hrel
  by_cases h1 : k < N + 64
  ·
   obtain ⟨b, o, he, hb1, hc1⟩ := (HA.out.1.below hb).at_ (by omega)
   injection he with he
   injection he with he1 he2 _
   subst he1 he2
   have hx : (whole mkT l)[k]? = some (mkT k) := whole_hi (by rw [HA.out.2]; omega) (by rw [HA.out.2]; exact h1)
   have d0 : wr.cell? ⟨g, k, none⟩ = some (.string (T.tmark k)) := by have := hc1 k _ (by rw [envC, List.getElem?_map, hx]; rfl); rwa [Nat.zero_add] at this
   have hcall := Lib.hid (T.text_any k w wr (by omega) HG.out.tab hb)
   generalize T.tmark k = m at d0 hcall
   clear hb1 hc1 hx
   go_wp2_with fail
   refine hcall.out.mono ?_
   rintro e w2 ⟨rfl, hb2⟩
   go_wp2_with fail
   go_roundg (N + 64 - (k + 1))
   case measure => omega
   case rel => exact ⟨k + 1, by omega, by omega, rfl, by go_num, bl hb hb2⟩
  ·
   go_wp2_with fail
   go_ret
   exact ⟨rfl, hb⟩
set_option maxRecDepth 100000 in
set_option maxHeartbeats 1000000 in
theorem wideIns_any (l : List In) (N : Nat) (A : Option Addr) (c : Nat) (w : World) (hN : l.length = N) (hl : N <= 16777216) (hA : Sl w w.heap.size 3 A N (codC l)) :
  Calls Tryz.prog 121 #[.slice A N c] w fun e w' => e = .returned (.slice (some ⟨w.heap.size, 0, none⟩) N (N + 64)) /\ Sl w' w'.heap.size 3 (some ⟨w.heap.size, 0, none⟩) (N + 64) (codC (whole mkI l)) /\ Below w.heap.size w w' := by
 obtain ⟨i0, hi0, hz0, hz1, hz2⟩ := info_parts infoI
 have hmk := fun W => make64 (P := Tryz.prog) 88 92 i0 (.agg #[.int .i8 0, .int .i64 0, .int .i64 0]) Tryz.underlying88 hi0 hz0 N (by rw [hz2]; omega) (by omega) W
 rw [hz1] at hmk
 obtain ⟨C, hC⟩ : ∃ C, madeCells (Value.cells (.agg #[.int .i8 0, .int .i64 0, .int .i64 0])) ((N + 64) * 3) = C := ⟨_, rfl⟩
 rw [hC] at hmk
 have hCs : C.size = (N + 64) * 3 := by rw [<- hC]; exact size_madeCells _ _
 have HC := Lib.hid hCs
 have HA := Lib.hid (And.intro hA hN)
 obtain ⟨L, hL⟩ : ∃ L, codC (whole mkI l) = L := ⟨_, rfl⟩
 have hLl : L.length = (N + 64) * 3 := by rw [<- hL]; rw [show codC (whole mkI l) = (whole mkI l).flatMap inC from rfl, flatL inC 3 in3, whole_len, HA.out.2]
 have HL := Lib.hid (And.intro hL hLl)
 rw [hL]
 clear hC hCs hA hN hL hLl
 go_enter Tryz.func121, Tryz.ntmps121
 go_wp2_with fail
 clear hmk
 go_loopg [4] (N + 64) (fun g i wr => ∃ k : Nat, k <= N + 64 /\ g = N + 64 - k /\ i = .int .i64 k /\ Below w.heap.size w wr /\
  ∃ f, wr.rowIs w.heap.size 92 ((N + 64) * 3) f /\ Hid (∀ j, j < k * 3 -> f j = L.getD j default))
 case atStart =>
  refine ⟨0, by omega, rfl, rfl, bal (Below.refl _ _) _, fun j => C.getD j default, ?_, Lib.hid fun j hj => by omega⟩
  rw [<- HC.out]
  exact World.rowIs_alloc _ _ _ _ fun i hi => by simp [hi]
 case round =>
  obtain ⟨k, hk, rfl, rfl, hb, f, hf, HF⟩ := hrel
  by_cases h1 : k < N + 64
  ·
   by_cases h2 : k < N
   ·
    obtain ⟨x, hx⟩ : ∃ x, l[k]? = some x := ⟨_, List.getElem?_eq_getElem (by rw [HA.out.2]; exact h2)⟩
    obtain ⟨b, o, rfl, hb1, hc1⟩ := (HA.out.1.below hb).at_ (by omega)
    have d0 : wr.cell? ⟨b, o + k * 3, none⟩ = some (.int .i8 x.op) := by have := hc1 (k * 3 + 0) _ (by rw [codC, flat_at inC 3 in3 _ _ _ _ hx (by decide)]; rfl); rwa [<- Nat.add_assoc] at this
    have d1 : wr.cell? ⟨b, o + k * 3 + 1, none⟩ = some (.int .i64 x.a) := by have := hc1 (k * 3 + 1) _ (by rw [codC, flat_at inC 3 in3 _ _ _ _ hx (by decide)]; rfl); rwa [<- Nat.add_assoc] at this
    have d2 : wr.cell? ⟨b, o + k * 3 + 2, none⟩ = some (.int .i64 x.b) := by have := hc1 (k * 3 + 2) _ (by rw [codC, flat_at inC 3 in3 _ _ _ _ hx (by decide)]; rfl); rwa [<- Nat.add_assoc] at this
    have HV := Lib.hid (show (whole mkI l)[k]? = some x by rw [whole_lo (by rw [HA.out.2]; exact h2), hx])
    clear hb1 hc1 hx
    have hth : wr.there w.heap.size (k * 3) (inC x).toArray.size := row_there hf (k * 3) 3 (by omega)
    have hon := all_oneCell_toArray (in_one x)
    have hin : (Tryz.prog.info? 92).map (·.size) = some (inC x).toArray.size := hin3
    go_wp2_with (with_reducible refine wpList_store_mid rfl 92 (.tmp 25) (.tmp 24) rfl w.heap.size (k * 3) (inC x).toArray ?_ ?_ hth hin hon ?_)
    · rfl
    · rfl
    go_roundg (N + 64 - (k + 1))
    case measure => omega
    case rel => exact ⟨k + 1, by omega, rfl, by go_num, below_cells (Nat.le_refl _) _ _ _ hb, _, _root_.Go.rowIs_setCells _ _ _ _ hf, Lib.hid (by have h0 := HF.out; rw [<- HL.out.1, show codC (whole mkI l) = (whole mkI l).flatMap inC from rfl] at h0 ⊢; exact row_step in3 h0 HV.out)⟩
   ·
    have hnum := fun W => num9_any 9 k W (by omega) (by omega) (by omega) (by omega)
    have HV := Lib.hid (show (whole mkI l)[k]? = some (mkI k) from whole_hi (by rw [HA.out.2]; omega) (by rw [HA.out.2]; exact h1))
    have hth : wr.there w.heap.size (k * 3) (inC (mkI k)).toArray.size := row_there hf (k * 3) 3 (by omega)
    have hon := all_oneCell_toArray (in_one (mkI k))
    have hin : (Tryz.prog.info? 92).map (·.size) = some (inC (mkI k)).toArray.size := hin3
    go_wp2_with fail
    refine (hnum _).mono ?_
    rintro e w2 ⟨rfl, rfl⟩
    go_wp2_with (with_reducible refine wpList_store_mid rfl 92 (.tmp 31) (.tmp 30) rfl w.heap.size (k * 3) (inC (mkI k)).toArray ?_ ?_ hth hin hon ?_)
    · rfl
    · rfl
    go_roundg (N + 64 - (k + 1))
    case measure => omega
    case rel => exact ⟨k + 1, by omega, rfl, by go_num, below_cells (Nat.le_refl _) _ _ _ hb, _, _root_.Go.rowIs_setCells _ _ _ _ hf, Lib.hid (by have h0 := HF.out; rw [<- HL.out.1, show codC (whole mkI l) = (whole mkI l).flatMap inC from rfl] at h0 ⊢; exact row_step in3 h0 HV.out)⟩
  ·
   go_wp2_with fail
   go_ret
   exact ⟨rfl, row_sl hf HL.out.2 (Nat.le_refl _) (fun j hj => HF.out j (by have : k = N + 64 := by omega
                                                                            subst this; exact hj)), hb⟩
set_option maxRecDepth 100000 in
set_option maxHeartbeats 1000000 in
theorem spareIns_any (l : List In) (N g : Nat) (w : World) (hN : l.length = N) (hl : N <= 16777216) (hA : Sl w w.heap.size 3 (some ⟨g, 0, none⟩) (N + 64) (codC (whole mkI l))) :
  Calls Tryz.prog 140 #[.slice (some ⟨g, 0, none⟩) N (N + 64)] w fun e w' => e = .returned (.bool true) /\ Below w.heap.size w w' := by
 have HA := Lib.hid (And.intro hA hN)
 clear hA hN
 go_enter Tryz.func140, Tryz.ntmps140
 go_wp2_with fail
 go_loopg [4] 64 (fun q i wr => ∃ k : Nat, N <= k /\ k <= N + 64 /\ q = N + 64 - k /\ i = .int .i64 k /\ Below w.heap.size w wr)
 case atStart => exact ⟨N, by omega, by omega, by omega, rfl, Below.refl _ _⟩
 case round =>
  obtain ⟨k, hk0, hk, rfl, rfl, hb⟩ := hrel
  by_cases h1 : k < N + 64
  ·
   obtain ⟨b, o, he, hb1, hc1⟩ := (HA.out.1.below hb).at_ (by omega)
   injection he with he
   injection he with he1 he2 _
   subst he1 he2
   have hx : (whole mkI l)[k]? = some (mkI k) := whole_hi (by rw [HA.out.2]; omega) (by rw [HA.out.2]; exact h1)
   have d0 : wr.cell? ⟨g, k * 3, none⟩ = some (.int .i8 0) := by have := hc1 (k * 3 + 0) _ (by rw [codC, flat_at inC 3 in3 _ _ _ _ hx (by decide)]; rfl); rwa [Nat.zero_add] at this
   have d1 : wr.cell? ⟨g, k * 3 + 1, none⟩ = some (.int .i64 (1048576 * 9 + (k : Int) + 1)) := by have := hc1 (k * 3 + 1) _ (by rw [codC, flat_at inC 3 in3 _ _ _ _ hx (by decide)]; rfl); rwa [Nat.zero_add] at this
   have d2 : wr.cell? ⟨g, k * 3 + 2, none⟩ = some (.int .i64 0) := by have := hc1 (k * 3 + 2) _ (by rw [codC, flat_at inC 3 in3 _ _ _ _ hx (by decide)]; rfl); rwa [Nat.zero_add] at this
   have hnum := fun W => num9_any 9 k W (by omega) (by omega) (by omega) (by omega)
   have hnum2 := fun W => (hnum W).mono (fun e w' h => And.intro h.1 h.2.symm)
   clear hb1 hc1 hx
   go_wp2_with fail
   go_quiet ((go_at_call 90; refine Calls.quiet_of_same (hnum2 _)))
   go_wp2_with fail
   go_roundg (N + 64 - (k + 1))
   case measure => omega
   case rel => exact ⟨k + 1, by omega, by omega, rfl, by go_num, bdr (bal hb _) _⟩
  ·
   go_wp2_with fail
   go_ret
   exact ⟨rfl, hb⟩
set_option maxRecDepth 100000 in
set_option maxHeartbeats 1000000 in
theorem wideCos_any (l : List Nd) (N : Nat) (A : Option Addr) (c : Nat) (w : World) (hN : l.length = N) (hl : N <= 16777216) (hA : Sl w w.heap.size 7 A N (cosC l)) :
  Calls Tryz.prog 123 #[.slice A N c] w fun e w' => e = .returned (.slice (some ⟨w.heap.size, 0, none⟩) N (N + 64)) /\ Sl w' w'.heap.size 7 (some ⟨w.heap.size, 0, none⟩) (N + 64) (cosC (whole mkC l)) /\ Below w.heap.size w w' := by
 obtain ⟨i0, hi0, hz0, hz1, hz2⟩ := info_parts infoN
 have hmk := fun W => make64 (P := Tryz.prog) 82 86 i0 (.agg #[.int .i8 0, .int .i64 0, .bool false, .int .u8 0, .int .i64 0, .int .u8 0, .int .u8 0]) Tryz.underlying82 hi0 hz0 N (by rw [hz2]; omega) (by omega) W
 rw [hz1] at hmk
 obtain ⟨C, hC⟩ : ∃ C, madeCells (Value.cells (.agg #[.int .i8 0, .int .i64 0, .bool false, .int .u8 0, .int .i64 0, .int .u8 0, .int .u8 0])) ((N + 64) * 7) = C := ⟨_, rfl⟩
 rw [hC] at hmk
 have hCs : C.size = (N + 64) * 7 := by rw [<- hC]; exact size_madeCells _ _
 have HC := Lib.hid hCs
 have HA := Lib.hid (And.intro hA hN)
 obtain ⟨L, hL⟩ : ∃ L, cosC (whole mkC l) = L := ⟨_, rfl⟩
 have hLl : L.length = (N + 64) * 7 := by rw [<- hL]; rw [show cosC (whole mkC l) = (whole mkC l).flatMap ndC from rfl, flatL ndC 7 ndl7, whole_len, HA.out.2]
 have HL := Lib.hid (And.intro hL hLl)
 rw [hL]
 clear hC hCs hA hN hL hLl
 go_enter Tryz.func123, Tryz.ntmps123
 go_wp2_with fail
 clear hmk
 go_loopg [4] (N + 64) (fun g i wr => ∃ k : Nat, k <= N + 64 /\ g = N + 64 - k /\ i = .int .i64 k /\ Below w.heap.size w wr /\
  ∃ f, wr.rowIs w.heap.size 86 ((N + 64) * 7) f /\ Hid (∀ j, j < k * 7 -> f j = L.getD j default))
 case atStart =>
  refine ⟨0, by omega, rfl, rfl, bal (Below.refl _ _) _, fun j => C.getD j default, ?_, Lib.hid fun j hj => by omega⟩
  rw [<- HC.out]
  exact World.rowIs_alloc _ _ _ _ fun i hi => by simp [hi]
 case round =>
  obtain ⟨k, hk, rfl, rfl, hb, f, hf, HF⟩ := hrel
  by_cases h1 : k < N + 64
  ·
   by_cases h2 : k < N
   ·
    obtain ⟨x, hx⟩ : ∃ x, l[k]? = some x := ⟨_, List.getElem?_eq_getElem (by rw [HA.out.2]; exact h2)⟩
    obtain ⟨b, o, rfl, hb1, hc1⟩ := (HA.out.1.below hb).at_ (by omega)
    have d0 : wr.cell? ⟨b, o + k * 7, none⟩ = some (.int .i8 x.op) := by have := hc1 (k * 7 + 0) _ (by rw [cosC, flat_at ndC 7 ndl7 _ _ _ _ hx (by decide)]; rfl); rwa [<- Nat.add_assoc] at this
    have d1 : wr.cell? ⟨b, o + k * 7 + 1, none⟩ = some (.int .i64 x.proj) := by have := hc1 (k * 7 + 1) _ (by rw [cosC, flat_at ndC 7 ndl7 _ _ _ _ hx (by decide)]; rfl); rwa [<- Nat.add_assoc] at this
    have d2 : wr.cell? ⟨b, o + k * 7 + 2, none⟩ = some (.bool x.inj) := by have := hc1 (k * 7 + 2) _ (by rw [cosC, flat_at ndC 7 ndl7 _ _ _ _ hx (by decide)]; rfl); rwa [<- Nat.add_assoc] at this
    have d3 : wr.cell? ⟨b, o + k * 7 + 3, none⟩ = some (.int .u8 x.head) := by have := hc1 (k * 7 + 3) _ (by rw [cosC, flat_at ndC 7 ndl7 _ _ _ _ hx (by decide)]; rfl); rwa [<- Nat.add_assoc] at this
    have d4 : wr.cell? ⟨b, o + k * 7 + 4, none⟩ = some (.int .i64 x.lab) := by have := hc1 (k * 7 + 4) _ (by rw [cosC, flat_at ndC 7 ndl7 _ _ _ _ hx (by decide)]; rfl); rwa [<- Nat.add_assoc] at this
    have d5 : wr.cell? ⟨b, o + k * 7 + 5, none⟩ = some (.int .u8 x.from_) := by have := hc1 (k * 7 + 5) _ (by rw [cosC, flat_at ndC 7 ndl7 _ _ _ _ hx (by decide)]; rfl); rwa [<- Nat.add_assoc] at this
    have d6 : wr.cell? ⟨b, o + k * 7 + 6, none⟩ = some (.int .u8 x.to_) := by have := hc1 (k * 7 + 6) _ (by rw [cosC, flat_at ndC 7 ndl7 _ _ _ _ hx (by decide)]; rfl); rwa [<- Nat.add_assoc] at this
    have HV := Lib.hid (show (whole mkC l)[k]? = some x by rw [whole_lo (by rw [HA.out.2]; exact h2), hx])
    clear hb1 hc1 hx
    have hth : wr.there w.heap.size (k * 7) (ndC x).toArray.size := row_there hf (k * 7) 7 (by omega)
    have hon := all_oneCell_toArray (nd_one x)
    have hin : (Tryz.prog.info? 86).map (·.size) = some (ndC x).toArray.size := hin7
    go_wp2_with (with_reducible refine wpList_store_mid rfl 86 (.tmp 25) (.tmp 24) rfl w.heap.size (k * 7) (ndC x).toArray ?_ ?_ hth hin hon ?_)
    · rfl
    · rfl
    go_roundg (N + 64 - (k + 1))
    case measure => omega
    case rel => exact ⟨k + 1, by omega, rfl, by go_num, below_cells (Nat.le_refl _) _ _ _ hb, _, _root_.Go.rowIs_setCells _ _ _ _ hf, Lib.hid (by have h0 := HF.out; rw [<- HL.out.1, show cosC (whole mkC l) = (whole mkC l).flatMap ndC from rfl] at h0 ⊢; exact row_step ndl7 h0 HV.out)⟩
   ·
    have hnum := fun W => num9_any 9 k W (by omega) (by omega) (by omega) (by omega)
    have HV := Lib.hid (show (whole mkC l)[k]? = some (mkC k) from whole_hi (by rw [HA.out.2]; omega) (by rw [HA.out.2]; exact h1))
    have hth : wr.there w.heap.size (k * 7) (ndC (mkC k)).toArray.size := row_there hf (k * 7) 7 (by omega)
    have hon := all_oneCell_toArray (nd_one (mkC k))
    have hin : (Tryz.prog.info? 86).map (·.size) = some (ndC (mkC k)).toArray.size := hin7
    go_wp2_with fail
    refine (hnum _).mono ?_
    rintro e w2 ⟨rfl, rfl⟩
    go_wp2_with (with_reducible refine wpList_store_mid rfl 86 (.tmp 31) (.tmp 30) rfl w.heap.size (k * 7) (ndC (mkC k)).toArray ?_ ?_ hth hin hon ?_)
    · rfl
    · rfl
    go_roundg (N + 64 - (k + 1))
    case measure => omega
    case rel => exact ⟨k + 1, by omega, rfl, by go_num, below_cells (Nat.le_refl _) _ _ _ hb, _, _root_.Go.rowIs_setCells _ _ _ _ hf, Lib.hid (by have h0 := HF.out; rw [<- HL.out.1, show cosC (whole mkC l) = (whole mkC l).flatMap ndC from rfl] at h0 ⊢; exact row_step ndl7 h0 HV.out)⟩
  ·
   go_wp2_with fail
   go_ret
   exact ⟨rfl, row_sl hf HL.out.2 (Nat.le_refl _) (fun j hj => HF.out j (by have : k = N + 64 := by omega
                                                                            subst this; exact hj)), hb⟩
set_option maxRecDepth 100000 in
set_option maxHeartbeats 1000000 in
theorem spareCos_any (l : List Nd) (N g : Nat) (w : World) (hN : l.length = N) (hl : N <= 16777216) (hA : Sl w w.heap.size 7 (some ⟨g, 0, none⟩) (N + 64) (cosC (whole mkC l))) :
  Calls Tryz.prog 141 #[.slice (some ⟨g, 0, none⟩) N (N + 64)] w fun e w' => e = .returned (.bool true) /\ Below w.heap.size w w' := by
 have HA := Lib.hid (And.intro hA hN)
 clear hA hN
 go_enter Tryz.func141, Tryz.ntmps141
 go_wp2_with fail
 go_loopg [4] 64 (fun q i wr => ∃ k : Nat, N <= k /\ k <= N + 64 /\ q = N + 64 - k /\ i = .int .i64 k /\ Below w.heap.size w wr)
 case atStart => exact ⟨N, by omega, by omega, by omega, rfl, Below.refl _ _⟩
 case round =>
  obtain ⟨k, hk0, hk, rfl, rfl, hb⟩ := hrel
  by_cases h1 : k < N + 64
  ·
   obtain ⟨b, o, he, hb1, hc1⟩ := (HA.out.1.below hb).at_ (by omega)
   injection he with he
   injection he with he1 he2 _
   subst he1 he2
   have hx : (whole mkC l)[k]? = some (mkC k) := whole_hi (by rw [HA.out.2]; omega) (by rw [HA.out.2]; exact h1)
   have d0 : wr.cell? ⟨g, k * 7, none⟩ = some (.int .i8 0) := by have := hc1 (k * 7 + 0) _ (by rw [cosC, flat_at ndC 7 ndl7 _ _ _ _ hx (by decide)]; rfl); rwa [Nat.zero_add] at this
   have d1 : wr.cell? ⟨g, k * 7 + 1, none⟩ = some (.int .i64 0) := by have := hc1 (k * 7 + 1) _ (by rw [cosC, flat_at ndC 7 ndl7 _ _ _ _ hx (by decide)]; rfl); rwa [Nat.zero_add] at this
   have d2 : wr.cell? ⟨g, k * 7 + 2, none⟩ = some (.bool false) := by have := hc1 (k * 7 + 2) _ (by rw [cosC, flat_at ndC 7 ndl7 _ _ _ _ hx (by decide)]; rfl); rwa [Nat.zero_add] at this
   have d3 : wr.cell? ⟨g, k * 7 + 3, none⟩ = some (.int .u8 0) := by have := hc1 (k * 7 + 3) _ (by rw [cosC, flat_at ndC 7 ndl7 _ _ _ _ hx (by decide)]; rfl); rwa [Nat.zero_add] at this
   have d4 : wr.cell? ⟨g, k * 7 + 4, none⟩ = some (.int .i64 (1048576 * 9 + (k : Int) + 1)) := by have := hc1 (k * 7 + 4) _ (by rw [cosC, flat_at ndC 7 ndl7 _ _ _ _ hx (by decide)]; rfl); rwa [Nat.zero_add] at this
   have d5 : wr.cell? ⟨g, k * 7 + 5, none⟩ = some (.int .u8 0) := by have := hc1 (k * 7 + 5) _ (by rw [cosC, flat_at ndC 7 ndl7 _ _ _ _ hx (by decide)]; rfl); rwa [Nat.zero_add] at this
   have d6 : wr.cell? ⟨g, k * 7 + 6, none⟩ = some (.int .u8 0) := by have := hc1 (k * 7 + 6) _ (by rw [cosC, flat_at ndC 7 ndl7 _ _ _ _ hx (by decide)]; rfl); rwa [Nat.zero_add] at this
   have hnum := fun W => num9_any 9 k W (by omega) (by omega) (by omega) (by omega)
   have hnum2 := fun W => (hnum W).mono (fun e w' h => And.intro h.1 h.2.symm)
   clear hb1 hc1 hx
   go_wp2_with fail
   go_quiet ((go_at_call 90; refine Calls.quiet_of_same (hnum2 _)))
   go_wp2_with fail
   go_roundg (N + 64 - (k + 1))
   case measure => omega
   case rel => exact ⟨k + 1, by omega, by omega, rfl, by go_num, bdr (bal hb _) _⟩
  ·
   go_wp2_with fail
   go_ret
   exact ⟨rfl, hb⟩
end Go.Proofs.YtobplngonkdbpaaGreatDoor.D
