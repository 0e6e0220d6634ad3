/- Parts of this claim: Itoa, Bld, CeA, CeQ, Rg. -/
import Derived.Lib.ItoaLen
import Derived.Lib.AppendIntMem
import Derived.WalkKit
import Derived.RegionTactic
import Derived.ChangeAlike
import Derived.Lib.OthersKept
import Derived.Lib.BufferKept
import Derived.Laws.Externs
import Derived.Lib.OwnKind
import Derived.Deep.LoopGhost
import Derived.Deep.RegionHeld3
import Derived.KernelRfl
import Derived.Test.YtobplngonkdbpaaGreatDoorP00
import Derived.Test.YtobplngonkdbpaaGreatDoorProg
import Derived.Test.YtobplngonkdbpaaGreatDoorP04
import Derived.Test.YtobplngonkdbpaaGreatDoorP03
set_option linter.unusedVariables false
set_option linter.unusedSimpArgs false
/- Itoa -/
namespace Go.Proofs.YtobplngonkdbpaaGreatDoor.T
open Go.RowKit Go.Proofs.YtobplngonkdbpaaGreatDoor.B
set_option linter.unusedSimpArgs false
set_option linter.unusedVariables false
/-- The table that Itoa reads stands. -/
abbrev Tab (w : World) : Prop := Lib.TabBelow Tryz.prog w.heap.size w "internal/strconv.uint64pow10" .u64 Lib.pow10Tab
def itoaS (n : Int) : ByteArray := ⟨(Lib.itoa n).toArray⟩
theorem itoaS_size (n : Int) (h0 : -9223372036854775808 <= n) (h1 : n <= 9223372036854775807) : (itoaS n).size <= 21 := by
 have := Lib.itoa_length_le n h0 h1
 simpa [itoaS, ByteArray.size] using this
theorem itoa_any (n : Int) (w W : World) (h0 : -9223372036854775808 <= n) (h1 : n <= 9223372036854775807) (ht : Tab w) (hb : Below w.heap.size w W) :
  Calls Tryz.prog 122 #[.int .i64 n] W fun e w' => e = .returned (.string (itoaS n)) /\ Below W.heap.size W w' :=
 (Tryz.strconv_Itoa n h0 h1 W (ht W hb)).mono fun e w' ⟨h, k, os, hw⟩ => ⟨h, by rw [hw]; exact Lib.below_grow _ W (Nat.le_refl _) k os⟩
theorem num_any (n i : Int) (w : World) (h0 : 0 <= n) (h1 : n <= 1048576) (h2 : 0 <= i) (h3 : i <= 4611686018427387904) :
  Calls Tryz.prog 90 #[.int .i64 n, .int .i64 i] w fun e w' => e = .returned (.int .i64 (1048576 * n + i + 1)) /\ w = w' := by
 go_enter Tryz.func90, Tryz.ntmps90
 go_wp2_with fail
 go_ret
 exact ⟨rfl, rfl⟩
/-- A mark. -/
def tmark (i : Nat) : ByteArray := ⟨#[33]⟩ ++ itoaS (1048576 * 9 + (i : Int) + 1)
theorem text_any (i : Nat) (w W : World) (hi : i <= 4611686018427387904) (ht : Tab w) (hb : Below w.heap.size w W) :
  Calls Tryz.prog 88 #[.int .i64 9, .int .i64 i] W fun e w' => e = .returned (.string (tmark i)) /\ Below W.heap.size W w' := by
 have h1 := Lib.hid fun V => num_any 9 (i : Int) V (by omega) (by omega) (by omega) (by omega)
 have h2 := Lib.hid (itoa_any (1048576 * 9 + (i : Int) + 1) w W (by omega) (by omega) ht hb)
 have hz := itoaS_size (1048576 * 9 + (i : Int) + 1) (by omega) (by omega)
 have s1 := fun V => (run_string_add_sum (P := Tryz.prog) V ⟨#[33]⟩ (itoaS (1048576 * 9 + (i : Int) + 1)) (by show 1 + _ <= _; omega))
 unfold tmark
 generalize itoaS (1048576 * 9 + (i : Int) + 1) = d at *
 go_enter Tryz.func88, Tryz.ntmps88
 go_wp2_with fail
 refine (h1.out _).mono ?_
 rintro e w' ⟨rfl, rfl⟩
 go_wp2_with fail
 refine h2.out.mono ?_
 rintro e w' ⟨rfl, hb2⟩
 go_wp2_with fail
 go_ret
 exact ⟨rfl, hb2⟩
end Go.Proofs.YtobplngonkdbpaaGreatDoor.T
/- Bld -/
namespace Go.Proofs.YtobplngonkdbpaaGreatDoor.Bd
open Go.RowKit Go.Proofs.YtobplngonkdbpaaGreatDoor.B
set_option linter.unusedSimpArgs false
set_option linter.unusedVariables false
abbrev PenT : TypeId := 73
abbrev U8 : TypeId := 5
abbrev PenAt (B b : Nat) (bs : List Value) (w : World) : Prop := Lib.IsBuilder PenT U8 B b bs w
theorem bld_size : (Tryz.prog.info? 73).map (·.size) = some 2 := by kernel_rfl
theorem bld_under : Tryz.prog.underlying 70 = some (.pointer 73) := by kernel_rfl
theorem unsafe_under : Tryz.prog.underlying 183 = some .unsafePointer := by kernel_rfl
theorem pen_lies : liesAt Tryz.prog Tryz.prog.depth PenT (2 / Tryz.prog.cellsOf PenT) 0 73 1 = true := by kernel_rfl
set_option maxRecDepth 100000 in
theorem pen_used (b : Nat) (w : World) (h0 : w.cell? ⟨b, 0, none⟩ = some (.pointer (some ⟨b, 0, none⟩))) :
  Calls Tryz.prog 91 #[.pointer (some ⟨b, 0, none⟩)] w fun e w' => e = .returned (.tuple #[]) /\ w' = w := by
 obtain ⟨j, hj, _⟩ := Option.map_eq_some_iff.1 bld_size
 go_enter Tryz.func91, Tryz.ntmps91
 go_wp2_with fail
 rw [Lib.run_neq_ptr_same w _ bld_under hj]
 go_wp2_with fail
 go_end0
 exact ⟨rfl, rfl⟩
set_option maxRecDepth 100000 in
theorem pen_fresh (b : Nat) (w : World) (h0 : w.cell? ⟨b, 0, none⟩ = some (.pointer none)) (hsh : w.shape? b = some (PenT, 2)) (hfz : w.frozen? ⟨b, 0, none⟩ = false) :
  Calls Tryz.prog 91 #[.pointer (some ⟨b, 0, none⟩)] w fun e w' => e = .returned (.tuple #[]) /\ w' = w.setCell ⟨b, 0, none⟩ (.pointer (some ⟨b, 0, none⟩)) := by
 obtain ⟨j, hj, hjs⟩ := Option.map_eq_some_iff.1 bld_size
 go_enter Tryz.func91, Tryz.ntmps91
 go_wp2_with fail
 rw [Lib.run_to_unsafe w ⟨b, 0, none⟩ bld_under unsafe_under hj (by rw [hjs]; decide) hsh (Nat.zero_lt_succ 1)]
 simp only [Result.andThen]
 rw [Oper.upon_value]
 go_wp2_with fail
 rw [run_callFunc_extern Tryz.func124 (by kernel_rfl) (by kernel_rfl) (by kernel_rfl) (e := Extern.AbiNoEscape.same) (by kernel_rfl)]
 rw [Lib.run_noEscape]
 simp only [Result.andThen]
 rw [Oper.upon_value]
 go_wp2_with fail
 rw [Lib.run_from_unsafe w ⟨b, 0, none⟩ unsafe_under bld_under hj hsh pen_lies]
 simp only [Result.andThen]
 rw [Oper.upon_value]
 go_wp2_with fail
 go_end0
 exact ⟨rfl, rfl⟩
/-- copyCheck: behind it the builder bears its own address. -/
theorem pen_check (B b : Nat) (bs : List Value) (w : World) (h : PenAt B b bs w) :
  Calls Tryz.prog 91 #[.pointer (some ⟨b, 0, none⟩)] w fun e w' => e = .returned (.tuple #[]) /\ Lib.BuilderAt PenT U8 B b (.pointer (some ⟨b, 0, none⟩)) bs w' /\ Below B w w' /\ Lib.OthersKept U8 (some b) w w' := by
 rcases h with h | h
 ·
  refine (pen_fresh b w h.cell0 h.shape h.frozen0).mono ?_
  rintro e w' ⟨rfl, rfl⟩
  exact ⟨rfl, h.used _, (Below.refl B w).setCell (p := ⟨b, 0, none⟩) h.1 _, (Lib.OthersKept.refl _ _ _).setCell ⟨b, 0, none⟩ rfl _⟩
 ·
  refine (pen_used b w h.cell0).mono ?_
  rintro e w' ⟨rfl, rfl⟩
  exact ⟨rfl, h, Below.refl B _, Lib.OthersKept.refl _ _ _⟩
theorem infoU8 : (Tryz.prog.info? U8).map (fun i => (i.zero, i.size, i.bytes)) = some (some (.int .u8 0), 1, 1) := by kernel_rfl
theorem cellsU8 : Tryz.prog.cellsOf U8 = 1 := by kernel_rfl
set_option maxRecDepth 100000 in
set_option maxHeartbeats 2000000 in
/-- WriteString. -/
theorem pen_write (B b : Nat) (bs : List Value) (s : ByteArray) (w : World) (h : PenAt B b bs w) (hlen : bs.length + s.size <= 140737488355328) (hBw : B <= w.heap.size) :
  Calls Tryz.prog 32 #[.pointer (some ⟨b, 0, none⟩), .string s] w fun e w' => e = .returned (.tuple #[.int .i64 s.size, .nilIface]) /\ Lib.BuilderAt PenT U8 B b (.pointer (some ⟨b, 0, none⟩)) (bs ++ Lib.strCells s) w' /\ Below B w w' /\ Lib.OthersKept U8 (some b) w w' := by
 obtain ⟨i0, hi, hz0, hz1, hz2⟩ := info_parts infoU8
 have HC := Lib.hid (pen_check B b bs w h)
 go_enter Tryz.func32, Tryz.ntmps32
 go_wp2_with fail
 refine HC.out.mono ?_
 rintro e w1 ⟨rfl, h1, hb1, hk1⟩
 obtain ⟨hB, v, hbk, hown, hne⟩ := h1
 have c0 : w1.cell? ⟨b, 0, none⟩ = some (.pointer (some ⟨b, 0, none⟩)) := by rw [Lib.cell_of_heap hbk]; rfl
 have c1 : w1.cell? ⟨b, 1, none⟩ = some v := by rw [Lib.cell_of_heap hbk]; rfl
 go_wp2_with (at_builtin; refine Lib.wpList_append_own_string _ rfl _ _ 71 9 rfl B U8 i0 Tryz.underlying71 Tryz.underlying9 hi hz0 hz1 hz2 _ _ _ rfl hown s rfl ?c3 ?c4 ?c5 ?_)
 case c3 => unfold maxLen; omega
 case c4 => omega
 case c5 => have := hb1.size; omega
 intro v' w2 hown' hgrow _
 have hlt : b < w1.heap.size := by
  rcases Nat.lt_or_ge b w1.heap.size with h' | h'
  · exact h'
  · simp [Array.getElem?_eq_none h'] at hbk
 have hb2 : w2.heap[b]? = some (.cells #[.pointer (some ⟨b, 0, none⟩), v] PenT (0, 0)) := by
  rw [hgrow.block b hlt (fun e => hne e.symm)]
  exact hbk
 have d0 : w2.cell? ⟨b, 0, none⟩ = some (.pointer (some ⟨b, 0, none⟩)) := by rw [Lib.cell_of_heap hb2]; rfl
 have d1 : w2.cell? ⟨b, 1, none⟩ = some v := by rw [Lib.cell_of_heap hb2]; rfl
 have f1 : w2.frozen? ⟨b, 1, none⟩ = false := Lib.frozen_of_heap hb2 1
 obtain ⟨ao, n', cap, rfl⟩ : ∃ ao n' cap, v' = .slice ao n' cap := by
  rcases hown'.2 with ⟨hv, _⟩ | ⟨g, cap, cur, hv, _⟩
  · exact ⟨_, _, _, hv⟩
  · exact ⟨_, _, _, hv⟩
 go_wp2_with fail
 go_ret2
 refine ⟨rfl, ?_, ?_, (hk1.grown hgrow (Lib.ownsRow_kind hown)).setCell ⟨b, 1, none⟩ rfl _⟩
 · exact Lib.BuilderAt.put (T := PenT) (e := U8) hB hb2 (bs' := bs ++ Lib.strCells s) (by simpa [Lib.strCells_length] using hown') (by decide)
 · exact (hb1.grown hgrow (by have := hb1.size; omega) (fun k hk => (hown.lt k hk).1)).setCell (p := ⟨b, 1, none⟩) hB _
theorem u8ptr_under : Tryz.prog.underlying 136 = some (.pointer U8) := by kernel_rfl
set_option maxRecDepth 100000 in
set_option maxHeartbeats 2000000 in
/-- String, of a builder that holds a byte. -/
theorem pen_string (B b : Nat) (l : List UInt8) (w : World) (h : PenAt B b (Lib.byteCells l) w) (h0 : l ≠ []) :
  Calls Tryz.prog 37 #[.pointer (some ⟨b, 0, none⟩)] w fun e w' => e = .returned (.string ⟨l.toArray⟩) /\ Below B w w' := by
 obtain ⟨p, hB, v, hbk, hown, hne⟩ : ∃ p, Lib.BuilderAt PenT U8 B b p (Lib.byteCells l) w := by
  rcases h with h | h
  · exact ⟨_, h⟩
  · exact ⟨_, h⟩
 have hl0 : l.length ≠ 0 := by simpa using h0
 rw [Lib.byteCells_length] at hown
 obtain ⟨g, cap, cur, rfl, hbg, hg, hnc, hcm, hcs, htake⟩ : ∃ g cap cur, v = .slice (some ⟨g, 0, none⟩) l.length cap /\ B <= g /\ w.heap[g]? = some (.cells cur U8 (0, 0)) /\ l.length <= cap /\ cap <= maxLen /\ cur.size = cap * 1 /\ cur.toList.take (l.length * 1) = Lib.byteCells l := by
  rcases hown.2 with ⟨_, hz⟩ | ⟨g, cap, cur, hv, r⟩
  · exact absurd hz hl0
  · exact ⟨g, cap, cur, hv, r⟩
 have c1 : w.drew.cell? ⟨b, 1, none⟩ = some (.slice (some ⟨g, 0, none⟩) l.length cap) := by
  have : w.drew.heap[b]? = some (.cells #[p, .slice (some ⟨g, 0, none⟩) l.length cap] PenT (0, 0)) := hbk
  rw [Lib.cell_of_heap this]; rfl
 have c1' : w.cell? ⟨b, 1, none⟩ = some (.slice (some ⟨g, 0, none⟩) l.length cap) := c1
 have hSD : (Builtin.unsafeSliceData_ #[71] 136 #[.slice (some ⟨g, 0, none⟩) l.length cap]).run Tryz.prog w.drew = .ok (.pointer (some ⟨g, 0, none⟩)) w.drew :=
  Lib.run_unsafeSliceData_row _ _ _ _ _ _ (by omega)
 have hUS : (Builtin.unsafeString_ #[136, 3] 9 #[.pointer (some ⟨g, 0, none⟩), .int .i64 l.length]).run Tryz.prog w.drew = .ok (.string ⟨l.toArray⟩) (w.drew.freeze ⟨g, 0, none⟩ l.length) := by
  refine Lib.run_unsafeString_row w.drew 136 3 9 U8 u8ptr_under cellsU8 g cur.size (by have hg' : w.drew.heap[g]? = some (.cells cur U8 (0, 0)) := hg; simp [World.shape?, hg']) l h0 (by omega) (by unfold maxLen at hcm; omega) ?_
  intro j x hx
  have := hown.cells (g := g) rfl j (.int .u8 x.toNat) (by simp [Lib.byteCells, hx])
  exact this
 go_enter Tryz.func37, Tryz.ntmps37
 go_wp2_with fail
 go_region
 all_goals (go_wp2_with fail; go_ret; exact ⟨rfl, Lib.below_freeze (Below.drew (Below.refl B w)) (p := ⟨g, 0, none⟩) hbg _⟩)
set_option maxRecDepth 100000 in
set_option maxHeartbeats 2000000 in
/-- WriteByte. -/
theorem pen_byte (B b : Nat) (bs : List Value) (c : Int) (w : World) (h : PenAt B b bs w) (hlen : bs.length + 1 <= 140737488355328) (hBw : B <= w.heap.size) :
  Calls Tryz.prog 94 #[.pointer (some ⟨b, 0, none⟩), .int .u8 c] w fun e w' => e = .returned .nilIface /\ Lib.BuilderAt PenT U8 B b (.pointer (some ⟨b, 0, none⟩)) (bs ++ [.int .u8 c]) w' /\ Below B w w' := by
 obtain ⟨i0, hi, hz0, hz1, hz2⟩ := info_parts infoU8
 have HC := Lib.hid (pen_check B b bs w h)
 go_enter Tryz.func94, Tryz.ntmps94
 go_wp2_with fail
 refine HC.out.mono ?_
 rintro e w1 ⟨rfl, h1, hb1, hk1⟩
 obtain ⟨hB, v, hbk, hown, hne⟩ := h1
 have c0 : w1.cell? ⟨b, 0, none⟩ = some (.pointer (some ⟨b, 0, none⟩)) := by rw [Lib.cell_of_heap hbk]; rfl
 have c1 : w1.cell? ⟨b, 1, none⟩ = some v := by rw [Lib.cell_of_heap hbk]; rfl
 have hlt : b < w1.heap.size := by
  rcases Nat.lt_or_ge b w1.heap.size with h' | h'
  · exact h'
  · simp [Array.getElem?_eq_none h'] at hbk
 have hbs1 := hb1.size
 obtain ⟨ao, cap, rfl, hc1, hc2⟩ := own_shape hown
 have hown1 := own_below hown (bal (b0 (a := w1)) (.cells #[.int .u8 c] U8))
 have HO := Lib.hid hown1
 clear hown1
 have hblk : ∀ w2, (w1.alloc (.cells #[.int .u8 c] U8)).grownBy w2 (Value.slice ao bs.length cap).ownBlock -> w2.heap[b]? = some (.cells #[.pointer (some ⟨b, 0, none⟩), .slice ao bs.length cap] PenT (0, 0)) := fun w2 hgrow => by
  rw [hgrow.block b (by simp only [World.size_alloc]; omega) (fun e => hne e.symm), Below.heap_alloc _ _ b hlt]
  exact hbk
 have HB2 := Lib.hid (show ∀ w2, (w1.alloc (.cells #[.int .u8 c] U8)).grownBy w2 (Value.slice ao bs.length cap).ownBlock -> w2.cell? ⟨b, 0, none⟩ = some (.pointer (some ⟨b, 0, none⟩)) /\ w2.cell? ⟨b, 1, none⟩ = some (.slice ao bs.length cap) /\ w2.frozen? ⟨b, 0, none⟩ = false /\ w2.frozen? ⟨b, 1, none⟩ = false from fun w2 hg =>
  ⟨by rw [Lib.cell_of_heap (hblk w2 hg)]; rfl, by rw [Lib.cell_of_heap (hblk w2 hg)]; rfl, Lib.frozen_of_heap (hblk w2 hg) 0, Lib.frozen_of_heap (hblk w2 hg) 1⟩)
 go_wp2_with (at_builtin; refine wpList_append_sl _ rfl (.tmp 11) (.tmp 13) _ rfl B U8 i0 _ 1 1 Tryz.underlying71 hi hz0 hz1 hz2 rfl (by omega) _ _ bs rfl HO.out (w1.heap.size + 1) (some ⟨w1.heap.size, 0, none⟩) 1 1 [.int .u8 c] rfl (Sl.one w1 _ _) (fun u hu => by rw [List.mem_singleton.1 hu]; rfl) (by unfold maxLen; omega) (by omega) (by simp only [World.size_alloc]; omega) ?_; intro v' w2 hown' hgrow _; have hgrow' : (w1.alloc (.cells #[.int .u8 c] U8)).grownBy w2 (Value.slice ao bs.length cap).ownBlock := hgrow; clear hgrow; obtain ⟨ao', cap', rfl, hc1', hc2'⟩ := own_shape hown'; obtain ⟨d0, d1, f0, f1⟩ := HB2.out w2 hgrow'; have HOG := Lib.hid (And.intro hown' hgrow'); clear hown' hgrow')
 go_ret
 obtain ⟨hown', hgrow⟩ := HOG.out
 have hb2 := hblk w2 hgrow
 refine ⟨rfl, ?_, ?_⟩
 · exact Lib.BuilderAt.put (T := PenT) (e := U8) hB hb2 (bs' := bs ++ [.int .u8 c]) (by simpa using hown') (by decide)
 · exact ((hb1.alloc (by omega) _).grown hgrow (by simp only [World.size_alloc]; omega) (fun k hk => (hown.lt k hk).1)).setCell (p := ⟨b, 1, none⟩) hB _
end Go.Proofs.YtobplngonkdbpaaGreatDoor.Bd
/- CeA -/
namespace Go.Proofs.YtobplngonkdbpaaGreatDoor.D
open Go.RowKit
open Go.Proofs.YtobplngonkdbpaaGreatDoor.B
open Go.Proofs.YtobplngonkdbpaaGreatDoor.T (Tab)
set_option linter.unusedVariables false
set_option linter.unusedSimpArgs false
/-- What lies in the library's variables. -/
structure Gl (w : World) : Prop where
 tab : Tab w
 hs : 8 <= w.heap.size
 deb : w.cell? ⟨5, 15, none⟩ = some (.int .u8 4)
 maxl : ∃ m, w.cell? ⟨0, 0, none⟩ = some (.int .i64 m)
 es : ∃ v, w.cell? ⟨2, 0, none⟩ = some v /\ (v = .nilIface \/ ∃ te pe, v = .iface te pe)
 er : ∃ v, w.cell? ⟨3, 0, none⟩ = some v /\ (v = .nilIface \/ ∃ te pe, v = .iface te pe)
theorem Gl.on {w w' : World} (h : Gl w) (hb : Below w.heap.size w w') : Gl w' := by
 have hs := h.hs
 have k : ∀ g i, g < 8 -> w'.cell? ⟨g, i, none⟩ = w.cell? ⟨g, i, none⟩ := fun g i hg => hb.cell (p := ⟨g, i, none⟩) (by show g < _; omega)
 refine ⟨fun w'' hb2 => h.tab _ (bl hb hb2), by have := hb.size; omega, ?_, ?_, ?_, ?_⟩
 · rw [k _ _ (by decide)]; exact h.deb
 · rw [k _ _ (by decide)]; exact h.maxl
 · rw [k _ _ (by decide)]; exact h.es
 · rw [k _ _ (by decide)]; exact h.er
theorem num_p (n : Int) (w : World) (hn : inR n) (hg : Gl w) :
  Calls Tryz.prog 93 #[.int .i64 n, .int .i64 10] w fun e w' => e = .returned (strV (Lib.itoa n)) /\ Below w.heap.size w w' := by
 refine (Tryz.strconv_FormatInt_10 n hn.1 hn.2 w hg.tab.here).mono ?_
 rintro e w' ⟨rfl, k, os, rfl⟩
 exact ⟨rfl, Lib.below_grow _ w (Nat.le_refl _) k os⟩
/-- A byte in sixteens. -/
def hex16 (x : Nat) : Bs := if x < 16 then [hexD x] else [hexD (x / 16), hexD (x % 16)]
theorem tz16 (w : World) (hg : Gl w) : Calls Tryz.prog 175 #[.int .u64 16] w fun e w' => e = .returned (.int .i64 4) /\ w' = w := by
 have hd := hg.deb
 have hin : Calls Tryz.prog 188 #[.int .u64 16] w fun e w' => e = .returned (.int .i64 4) /\ w' = w := by
  have h15 : IntKind.u64.wrap (bits BinOp.and IntKind.u64 16 (IntKind.u64.wrap (-16)) * 285870213051353865) / 288230376151711744 = 15 := by kernel_rfl
  go_enter Tryz.func188, Tryz.ntmps188
  go_wp2_with fail
  go_ret
  exact ⟨rfl, rfl⟩
 go_enter Tryz.func175, Tryz.ntmps175
 go_wp2_with fail
 (refine hin.mono ?_); rintro e w' ⟨rfl, rfl⟩
 go_wp2_with fail
 go_ret
 exact ⟨rfl, rfl⟩
theorem pw16 (w : World) : Calls Tryz.prog 174 #[.int .i64 16] w fun e w' => e = .returned (.bool true) /\ w' = w := by
 go_enter Tryz.func174, Tryz.ntmps174
 go_wp2_with fail
 go_ret
 exact ⟨rfl, rfl⟩
theorem dig_at (i : Nat) (h : i < (⟨#[48,49,50,51,52,53,54,55,56,57,97,98,99,100,101,102,103,104,105,106,107,108,109,110,111,112,113,114,115,116,117,118,119,120,121,122]⟩ : ByteArray).size) (hi : i < 16) : (⟨#[48,49,50,51,52,53,54,55,56,57,97,98,99,100,101,102,103,104,105,106,107,108,109,110,111,112,113,114,115,116,117,118,119,120,121,122]⟩ : ByteArray)[i]'h = hexD i := by
 have key : ∀ j : Fin 16, (⟨#[48,49,50,51,52,53,54,55,56,57,97,98,99,100,101,102,103,104,105,106,107,108,109,110,111,112,113,114,115,116,117,118,119,120,121,122]⟩ : ByteArray)[j.val]'(Nat.lt_trans j.isLt (by decide)) = hexD j.val := by decide
 exact key ⟨i, hi⟩
set_option maxRecDepth 100000 in
theorem and15 (x : Nat) (hx : x < 256) : bits BinOp.and IntKind.u64 (x : Int) 15 = ((x % 16 : Nat) : Int) := by
 have key : ∀ j : Fin 256, bits BinOp.and IntKind.u64 (j.val : Int) 15 = ((j.val % 16 : Nat) : Int) := by decide
 exact key ⟨x, hx⟩
theorem conv1 (W : World) (b o c : Nat) (u : UInt8) (h : W.cell? ⟨b, o, none⟩ = some (.int .u8 u.toNat)) : (convert 71 9 (.slice (some ⟨b, o, none⟩) 1 c)).run Tryz.prog W = .ok (strV [u]) W :=
 run_convert_bytes_back W _ _ 5 ⟨b, o, none⟩ c [u] Tryz.underlying71 Tryz.underlying5 Tryz.underlying9 fun j hj => by
  obtain rfl : j = 0 := by simpa using hj
  rw [add_flat]; exact h
theorem conv2 (W : World) (b o c : Nat) (u v : UInt8) (h : W.cell? ⟨b, o, none⟩ = some (.int .u8 u.toNat)) (k : W.cell? ⟨b, o + 1, none⟩ = some (.int .u8 v.toNat)) : (convert 71 9 (.slice (some ⟨b, o, none⟩) 2 c)).run Tryz.prog W = .ok (strV [u, v]) W :=
 run_convert_bytes_back W _ _ 5 ⟨b, o, none⟩ c [u, v] Tryz.underlying71 Tryz.underlying5 Tryz.underlying9 fun j hj => by
  rw [add_flat]
  rcases (show j = 0 \/ j = 1 by simp at hj; omega) with rfl | rfl
  · exact h
  · exact k
set_option maxRecDepth 100000 in
set_option maxHeartbeats 1000000 in
theorem bits16 (x : Nat) (hx : x < 256) (w : World) (hg : Gl w) :
  Calls Tryz.prog 156 #[.slice none 0 0, .int .u64 x, .int .i64 16, .bool false, .bool false] w fun e w' => e = .returned (.tuple #[.slice none 0 0, strV (hex16 x)]) /\ Below w.heap.size w w' := by
 have h1 := fun W => pw16 W
 have h2 := Lib.hid (fun W (hb : Below w.heap.size w W) => tz16 W (hg.on hb))
 go_enter Tryz.func156, Tryz.ntmps156
 go_wp2_with fail
 (refine (h1 _).mono ?_); rintro e w1 ⟨rfl, rfl⟩
 go_wp2_with fail
 (refine (h2.out _ (bal (Below.refl _ _) _)).mono ?_); rintro e w1 ⟨rfl, rfl⟩
 go_wp2_with fail
 go_loopg [1, 13] 1 (fun g u i wr => ∃ k : Nat, (k = 0 /\ u = .int .u64 x /\ i = .int .i64 65 /\ wr = w.alloc (.cells Tryz.zeroCells231 231) \/
  k = 1 /\ 16 <= x /\ u = .int .u64 (x / 16 : Nat) /\ i = .int .i64 64 /\ wr = w.alloc (.cells (Tryz.zeroCells231.setIfInBounds 64 (.int .u8 (hexD (x % 16)).toNat)) 231)) /\ g = 1 - k)
 case atStart => exact ⟨0, .inl ⟨rfl, rfl, rfl, rfl⟩, rfl⟩
 case round =>
  obtain ⟨k, hk, rfl⟩ := hrel
  rcases hk with ⟨rfl, rfl, rfl, rfl⟩ | ⟨rfl, hx16, rfl, rfl, rfl⟩
  ·
   by_cases hlt : x < 16
   ·
    go_wp2_with fail
    rw [dig_at _ _ hlt, conv1 _ _ _ _ (hexD x) (by simp)]
    simp only [Result.andThen]
    rw [Oper.upon_value]
    go_wp2_with fail
    go_ret2
    exact ⟨by rw [hex16, if_pos hlt]; rfl, bal (Below.refl _ _) _⟩
   ·
    have hb15 := and15 x hx
    go_wp2_with fail
    rw [dig_at _ _ (by omega)]
    go_roundg 0
    case measure => omega
    case rel => exact ⟨1, .inr ⟨rfl, by omega, by go_num, rfl, rfl⟩, rfl⟩
  ·
   go_wp2_with fail
   rw [dig_at _ _ (by omega), conv2 _ _ _ _ (hexD (x / 16)) (hexD (x % 16)) (by simp) (by simp)]
   simp only [Result.andThen]
   rw [Oper.upon_value]
   go_wp2_with fail
   go_ret2
   exact ⟨by rw [hex16, if_neg (by omega)]; rfl, bal (Below.refl _ _) _⟩
theorem hex_p (x : Nat) (hx : x < 256) (w : World) (hg : Gl w) :
  Calls Tryz.prog 95 #[.int .u64 x, .int .i64 16] w fun e w' => e = .returned (strV (hex16 x)) /\ Below w.heap.size w w' := by
 have h1 := bits16 x hx w hg
 have hin : Calls Tryz.prog 127 #[.int .u64 x, .int .i64 16] w fun e w' => e = .returned (strV (hex16 x)) /\ Below w.heap.size w w' := by
  go_enter Tryz.func127, Tryz.ntmps127
  go_wp2_with fail
  (refine h1.mono ?_); rintro e w1 ⟨rfl, hb⟩
  go_wp2_with fail
  go_ret
  exact ⟨rfl, hb⟩
 clear h1
 go_enter Tryz.func95, Tryz.ntmps95
 go_wp2_with fail
 (refine hin.mono ?_); rintro e w1 ⟨rfl, hb⟩
 go_wp2_with fail
 go_ret
 exact ⟨rfl, hb⟩
end Go.Proofs.YtobplngonkdbpaaGreatDoor.D
/- CeQ -/
namespace Go.Proofs.YtobplngonkdbpaaGreatDoor.D
open Go.RowKit
open Go.Proofs.YtobplngonkdbpaaGreatDoor.B
open Go.Proofs.YtobplngonkdbpaaGreatDoor.Bd (PenAt PenT U8 pen_write pen_byte pen_string)
set_option linter.unusedVariables false
set_option linter.unusedSimpArgs false
theorem pen_later {B b : Nat} {bs : List Value} {w w' : World} (h : PenAt B b bs w) (hb : Below w.heap.size w w') : PenAt B b bs w' := by
 have key : ∀ p, Lib.BuilderAt PenT U8 B b p bs w -> Lib.BuilderAt PenT U8 B b p bs w' := by
  rintro p ⟨h1, v, h2, h3, h4⟩
  exact ⟨h1, v, (hb.block b (Array.getElem?_eq_some_iff.1 h2).1).trans h2, own_below h3 hb, h4⟩
 exact h.imp (key _) (key _)
theorem pen_new (w : World) : PenAt w.heap.size w.heap.size (Lib.byteCells []) (w.alloc (.cells #[.pointer none, .slice none 0 0] 73)) :=
 .inl ⟨Nat.le_refl _, _, heap_alloc_new _ _, World.ownsRow_nil _ _ _ _, by simp [Value.ownBlock]⟩
theorem pen_lt {B b : Nat} {bs : List Value} {w : World} (h : PenAt B b bs w) : B <= b /\ b < w.heap.size := by
 rcases h with ⟨h1, v, h2, _⟩ | ⟨h1, v, h2, _⟩ <;> exact ⟨h1, (Array.getElem?_eq_some_iff.1 h2).1⟩
/-- One byte more, a text more: plainly told. -/
theorem put_byte (B b : Nat) (l : Bs) (c : UInt8) (w : World) (h : PenAt B b (Lib.byteCells l) w) (hlen : l.length + 1 <= 140737488355328) :
  Calls Tryz.prog 94 #[.pointer (some ⟨b, 0, none⟩), .int .u8 c.toNat] w fun e w' => e = .returned .nilIface /\ PenAt B b (Lib.byteCells (l ++ [c])) w' /\ Below B w w' := by
 have hlt := pen_lt h
 refine (pen_byte B b (Lib.byteCells l) c.toNat w h (by rw [Lib.byteCells_length]; exact hlen) (by omega)).mono ?_
 rintro e w' ⟨h1, h2, h3⟩
 exact ⟨h1, .inr (by rw [Lib.byteCells_append]; exact h2), h3⟩
theorem put_text (B b : Nat) (l s : Bs) (w : World) (h : PenAt B b (Lib.byteCells l) w) (hlen : l.length + s.length <= 140737488355328) :
  Calls Tryz.prog 32 #[.pointer (some ⟨b, 0, none⟩), strV s] w fun e w' => e = .returned (.tuple #[.int .i64 s.length, .nilIface]) /\ PenAt B b (Lib.byteCells (l ++ s)) w' /\ Below B w w' := by
 have hlt := pen_lt h
 have hz : (⟨s.toArray⟩ : ByteArray).size = s.length := by simp [ByteArray.size]
 refine (pen_write B b (Lib.byteCells l) ⟨s.toArray⟩ w h (by rw [Lib.byteCells_length, hz]; exact hlen) (by omega)).mono ?_
 rintro e w' ⟨h1, h2, h3, _⟩
 exact ⟨by rw [h1, hz], .inr (by rw [Lib.byteCells_append]; exact h2), h3⟩
theorem inner_snoc (s : Bs) (x : UInt8) : inner (s ++ [x]) = inner s ++ escB x := by simp [inner]
theorem inner_take {s : Bs} {k : Nat} {x : UInt8} (h : s[k]? = some x) : inner (s.take (k + 1)) = inner (s.take k) ++ escB x := by
 rw [List.take_add_one, h]; exact inner_snoc _ _
theorem inner_len (s : Bs) : (inner s).length <= 4 * s.length := by
 induction s with
 | nil => simp [inner]
 | cons x s ih =>
  have := escB_len x
  rw [show inner (x :: s) = escB x ++ inner s from rfl, List.length_append, List.length_cons]; omega
theorem str_at {s : Bs} {k : Nat} {x : UInt8} (h : s[k]? = some x) (hk : k < (⟨s.toArray⟩ : ByteArray).size) : (⟨s.toArray⟩ : ByteArray)[k]'hk = x := by
 obtain ⟨h1, h2⟩ := List.getElem?_eq_some_iff.1 h
 show s.toArray[k] = x
 simpa using h2
theorem str_size (s : Bs) : (⟨s.toArray⟩ : ByteArray).size = s.length := by simp [ByteArray.size]
set_option maxRecDepth 100000 in
set_option maxHeartbeats 1000000 in
theorem quote_p (s : Bs) (w : World) (hl : s.length <= 1073741824) (hg : Gl w) :
  Calls Tryz.prog 35 #[strV s] w fun e w' => e = .returned (strV (quoteL s)) /\ Below w.heap.size w w' := by
 have hp0 := pen_new w
 have HG := Lib.hid hg
 have hsz := str_size s
 have hP := Lib.hid (put_byte w.heap.size w.heap.size [] 34 _ hp0 (by simp))
 clear hg hp0
 unfold strV
 go_enter Tryz.func35, Tryz.ntmps35
 go_wp2_with fail
 (refine hP.out.mono ?_); rintro ev w1 ⟨rfl, hp1, hb1⟩
 have hbs1 : Below w.heap.size w w1 := (bal (Below.refl _ _) _).trans hb1
 have HP1 := Lib.hid (And.intro hp1 hbs1)
 clear hP hp1 hb1 hbs1
 go_wp2_with fail
 go_loopg [10] s.length (fun g i wr => ∃ k : Nat, k <= s.length /\ g = s.length - k /\ i = .int .i64 k /\ Hid (PenAt w.heap.size w.heap.size (Lib.byteCells (34 :: inner (s.take k))) wr /\ Below w.heap.size w wr))
 case atStart => exact ⟨0, by omega, rfl, rfl, HP1⟩
 case round =>
  obtain ⟨k, hk, rfl, rfl, HP⟩ := hrel
  clear HP1
  have hin := inner_len (s.take k)
  have hinl : (s.take k).length <= s.length := by rw [List.length_take]; omega
  by_cases hlt : k < s.length
  ·
   obtain ⟨x, hx⟩ : ∃ x, s[k]? = some x := ⟨_, List.getElem?_eq_getElem hlt⟩
   have hat := str_at hx (by rw [hsz]; exact hlt)
   have hx255 := x.toNat_lt
   have HX := Lib.hid hx
   clear hx
   by_cases hpl : plainB x = true
   ·
    obtain ⟨f1, f2, f3, f4⟩ := plainB_iff.1 hpl
    have hPB := Lib.hid (put_byte _ _ _ x _ HP.out.1 (by simp only [List.length_cons]; omega))
    have HE := Lib.hid (show 34 :: inner (s.take k) ++ [x] = 34 :: inner (s.take (k + 1)) by rw [inner_take HX.out, escB, if_pos hpl, List.cons_append])
    rw [HE.out] at hPB
    clear hpl
    have e1 : decide ((x.toNat : Int) < 32) = false := by simp; omega
    have e2 : decide (126 < (x.toNat : Int)) = false := by simp; omega
    have e3 : ((x.toNat : Int) == 34) = false := by simp; omega
    have e4 : ((x.toNat : Int) == 92) = false := by simp; omega
    clear f1 f2 f3 f4
    go_wp2_with fail
    (refine hPB.out.mono ?_); rintro ev w2 ⟨rfl, hp2, hb2⟩
    have HP2 := Lib.hid (And.intro hp2 (HP.out.2.trans hb2))
    clear hp2 hb2
    go_wp2_with fail
    go_roundg (s.length - (k + 1))
    case measure => omega
    case rel => exact ⟨k + 1, by omega, rfl, by go_num, HP2⟩
   ·
    have hnp : x.toNat < 32 \/ 126 < x.toNat \/ x.toNat = 34 \/ x.toNat = 92 := by
     by_cases h1 : x.toNat < 32
     · exact .inl h1
     by_cases h2 : 126 < x.toNat
     · exact .inr (.inl h2)
     by_cases h3 : x.toNat = 34
     · exact .inr (.inr (.inl h3))
     by_cases h4 : x.toNat = 92
     · exact .inr (.inr (.inr h4))
     exact absurd (plainB_iff.2 ⟨by omega, by omega, h3, h4⟩) hpl
    have key : decide ((x.toNat : Int) < 32) = true \/ (decide ((x.toNat : Int) < 32) = false /\ decide (126 < (x.toNat : Int)) = true) \/
      (decide ((x.toNat : Int) < 32) = false /\ decide (126 < (x.toNat : Int)) = false /\ ((x.toNat : Int) == 34) = true) \/
      (decide ((x.toNat : Int) < 32) = false /\ decide (126 < (x.toNat : Int)) = false /\ ((x.toNat : Int) == 34) = false /\ ((x.toNat : Int) == 92) = true) := by
     simp only [decide_eq_true_eq, decide_eq_false_iff_not, beq_iff_eq, beq_eq_false_iff_ne, ne_eq]
     omega
    clear hnp
    have hF := hex_p x.toNat (by omega) wr (HG.out.on HP.out.2)
    have HE := Lib.hid (show (34 :: inner (s.take k)) ++ escB x = 34 :: inner (s.take (k + 1)) by rw [inner_take HX.out, List.cons_append])
    have hesc : escB x = [92, 120, hexD (x.toNat / 16), hexD (x.toNat % 16)] := if_neg hpl
    have hT := Lib.hid (fun W (hb : Below wr.heap.size wr W) => put_text _ _ _ (escB x) W (pen_later HP.out.1 hb) (by have := escB_len x; simp only [List.length_cons]; omega))
    rw [HE.out, hesc] at hT
    clear hpl
    by_cases h16 : x.toNat < 16
    ·
     have hz : (⟨#[hexD x.toNat]⟩ : ByteArray).size = 1 := rfl
     have hr := fun W => Tryz.strings_Repeat_one ⟨#[48]⟩ W
     have hcat : (⟨#[92, 120]⟩ ++ ⟨#[48]⟩ ++ ⟨#[hexD x.toNat]⟩ : ByteArray) = ⟨(escB x).toArray⟩ := by
      rw [hesc, show x.toNat / 16 = 0 by omega, show x.toNat % 16 = x.toNat by omega]; rfl
     rw [hex16, if_pos h16] at hF
     have e1 : decide ((x.toNat : Int) < 32) = true := by simp; omega
     clear key
     unfold strV at hF hT
     go_wp2_with fail
     (refine hF.mono ?_); rintro ev w2 ⟨rfl, hb2⟩
     clear hF
     go_wp2_with fail
     (refine (hr _).mono ?_); rintro ev w3 ⟨rfl, rfl⟩
     go_wp2_with fail
     (refine (hT.out _ hb2).mono ?_); rintro ev w4 ⟨rfl, hp4, hb4⟩
     have HP4 := Lib.hid (And.intro hp4 ((bl HP.out.2 hb2).trans hb4))
     clear hp4 hb4
     go_wp2_with fail
     go_roundg (s.length - (k + 1))
     case measure => omega
     case rel => exact ⟨k + 1, by omega, rfl, by go_num, HP4⟩
    ·
     have hz : (⟨#[hexD (x.toNat / 16), hexD (x.toNat % 16)]⟩ : ByteArray).size = 2 := rfl
     have hr := fun W => Tryz.strings_Repeat_zero ⟨#[48]⟩ W
     have hcat : (⟨#[92, 120]⟩ ++ ⟨#[]⟩ ++ ⟨#[hexD (x.toNat / 16), hexD (x.toNat % 16)]⟩ : ByteArray) = ⟨(escB x).toArray⟩ := by
      rw [hesc]; rfl
     have hcat2 : (⟨#[92, 120]⟩ ++ ⟨#[hexD (x.toNat / 16), hexD (x.toNat % 16)]⟩ : ByteArray) = ⟨(escB x).toArray⟩ := by
      rw [hesc]; rfl
     rw [hex16, if_neg h16] at hF
     unfold strV at hF hT
     rcases key with e1 | ⟨e1, e2⟩ | ⟨e1, e2, e3⟩ | ⟨e1, e2, e3, e4⟩
     all_goals (
      go_wp2_with fail
      (refine hF.mono ?_); rintro ev w2 ⟨rfl, hb2⟩
      clear hF
      go_wp2_with fail
      (refine (hr _).mono ?_); rintro ev w3 ⟨rfl, rfl⟩
      go_wp2_with fail
      (refine (hT.out _ hb2).mono ?_); rintro ev w4 ⟨rfl, hp4, hb4⟩
      have HP4 := Lib.hid (And.intro hp4 ((bl HP.out.2 hb2).trans hb4))
      clear hp4 hb4
      go_wp2_with fail
      go_roundg (s.length - (k + 1))
      case measure => omega
      case rel => exact ⟨k + 1, by omega, rfl, by go_num, HP4⟩)
  ·
   obtain rfl : k = s.length := by omega
   have hPB := Lib.hid (put_byte _ _ _ 34 _ HP.out.1 (by simp only [List.length_cons]; omega))
   go_wp2_with fail
   (refine hPB.out.mono ?_); rintro ev w2 ⟨rfl, hp2, hb2⟩
   have hPS := Lib.hid (pen_string _ _ _ _ hp2 (by simp))
   have HB2 := Lib.hid (HP.out.2.trans hb2)
   clear hPB hp2 hb2 HP
   go_wp2_with fail
   (refine hPS.out.mono ?_); rintro ev w3 ⟨rfl, hb3⟩
   go_wp2_with fail
   go_ret
   exact ⟨rfl, HB2.out.trans hb3⟩
end Go.Proofs.YtobplngonkdbpaaGreatDoor.D
/- Rg -/
namespace Go.Proofs.YtobplngonkdbpaaGreatDoor.B
open Go.RowKit
theorem rg1 {α : Type} {l : List α} {i : Nat} {a : α} : l.toArray.setIfInBounds i a = (l.set i a).toArray := by simp
theorem rg2 {α : Type} {a b : α} {l : List α} : (a :: l).set 0 b = b :: l := rfl
theorem rg3 {α : Type} {a b : α} {l : List α} {n : Nat} : (a :: l).set (n + 1) b = a :: l.set n b := rfl
section
variable {P : Program} {ops : Array Oper} {Q : Exit -> Act -> World -> Prop} {md : Region.Mode} {S : World -> Prop} {op : Op} {ty : TypeId} {pos : String} {af : Array Edge} {gd : Option (Nat × Bool)} {v : Value} {fuel : Nat} {listed : Array Bool} {a : Act} {w : World}
/-- Number i is taken first: it is wanted. -/
theorem rgt (i d : Nat) (hi : ops[i]? = some ⟨some d, op, ty, pos, af, gd⟩) (hw : Region.wanted ⟨some d, op, ty, pos, af, gd⟩ (yielded ops a.tmps) = true) (hS : S w)
  (h : wpAnyH P md ops Q S fuel (listed.setIfInBounds i true) (a.put (some d) v) w)
  (hy : ∀ w, S w -> (execOp a.eval ⟨some d, op, ty, pos, af, gd⟩).run P w = .ok (.value v) w := by (intro wq hq; (try dsimp only at hq); go_simp; try with_reducible rfl))
  (hs : Region.noSelect ops = true := by kernel_rfl) (hf : Region.free md ops listed i = true := by kernel_rfl) (hr : (Region.ready md ops listed).contains i = true := by kernel_rfl)
  (hQ : ∀ c a w, Q (.panic c) (a.put (some d) v) w -> Q (.panic c) a w := by exact fun _ _ _ h => h) : wpAnyH P md ops Q S (fuel + 1) listed a w :=
 wpAnyH_take hi hs hf hr hQ (.inl ⟨hw, hy⟩) hS h
/-- Number i alone comes up. -/
theorem rgc (i : Nat) (d : Option Nat) (hi : ops[i]? = some ⟨d, op, ty, pos, af, gd⟩)
  (h : ∀ K' : Act -> World -> Prop, Shut (∀ a w, S w -> (S w -> wpAnyH P md ops Q S fuel (listed.setIfInBounds i true) a w) -> K' a w) -> if Region.wanted ⟨d, op, ty, pos, af, gd⟩ (yielded ops a.tmps) = true then Oper.wp P ⟨d, op, ty, pos, af, gd⟩ a w K' Q else K' (a.put d undef) w)
  (hr : Region.ready md ops listed = [i] := by kernel_rfl) : wpAnyH P md ops Q S (fuel + 1) listed a w :=
 wpAnyH_ready hr (by simp) (AllReadyH.cons hi h AllReadyH.nil)
end
end Go.Proofs.YtobplngonkdbpaaGreatDoor.B
