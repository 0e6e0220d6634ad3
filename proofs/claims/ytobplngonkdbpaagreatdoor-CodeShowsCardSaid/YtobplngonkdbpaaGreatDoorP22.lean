/- Parts of this claim: CgA. -/
import Derived.Lib.BufferKept
import Derived.Test.YtobplngonkdbpaaGreatDoorP21
set_option linter.unusedVariables false
set_option linter.unusedSimpArgs false
/- CgA -/
namespace Go.Proofs.YtobplngonkdbpaaGreatDoor.D
open Go.RowKit
open Go.Proofs.YtobplngonkdbpaaGreatDoor.B
open Go.Proofs.YtobplngonkdbpaaGreatDoor.Bd (PenAt PenT U8 pen_write pen_byte pen_string)
set_option linter.unusedVariables false
set_option linter.unusedSimpArgs false
theorem cat_bytes (a b : Bs) : (⟨a.toArray⟩ ++ ⟨b.toArray⟩ : ByteArray) = ⟨(a ++ b).toArray⟩ := by
 apply ByteArray.ext
 rw [ByteArray.data_append]; simp
theorem joinC_lenS (c : UInt8) : ∀ ws : List Bs, ws ≠ [] -> lenS ws <= (joinC c ws).length + 1
 | [], h => absurd rfl h
 | [w], _ => by simp [lenS, joinC]
 | w :: v :: r, _ => by
  have h := joinC_lenS c (v :: r) (by simp)
  rw [lenS_cons, joinC, List.length_append, List.length_cons]; omega
/-- A text more: and what else stays. -/
theorem put_text2 (B b : Nat) (l s : Bs) (w : World) (h : PenAt B b (Lib.byteCells l) w) (hlen : l.length + s.length <= 140737488355328) :
  Calls Tryz.prog 32 #[.pointer (some ⟨b, 0, none⟩), strV s] w fun e w' => e = .returned (.tuple #[.int .i64 s.length, .nilIface]) /\ PenAt B b (Lib.byteCells (l ++ s)) w' /\ Below B w w' /\ Lib.OthersKept U8 (some b) w w' := by
 have hlt := pen_lt h
 have hz : (⟨s.toArray⟩ : ByteArray).size = s.length := by simp [ByteArray.size]
 refine (pen_write B b (Lib.byteCells l) ⟨s.toArray⟩ w h (by rw [Lib.byteCells_length, hz]; exact hlen) (by omega)).mono ?_
 rintro e w' ⟨h1, h2, h3, h4⟩
 exact ⟨by rw [h1, hz], .inr (by rw [Lib.byteCells_append]; exact h2), h3, h4⟩
theorem kept_blk {b g : Nat} {t : TypeId} {cs : Array Value} {w w' : World} (h : Lib.OthersKept U8 (some b) w w') (hk : Blk w g t cs) (hne : g ≠ b) (ht : t ≠ U8) : Blk w' g t cs :=
 h g _ hk (fun e => hne (by injection e)) fun c fz e => ht (by injection e)
set_option maxRecDepth 100000 in
set_option maxHeartbeats 2000000 in
/-- String, of a builder that nothing was written into. -/
theorem pen_empty (b : Nat) (w : World) (h : Blk w b 73 #[.pointer none, .slice none 0 0]) :
  Calls Tryz.prog 37 #[.pointer (some ⟨b, 0, none⟩)] w fun e w' => e = .returned (.string ⟨#[]⟩) /\ Below w.heap.size w w' := by
 have c1 : w.drew.cell? ⟨b, 1, none⟩ = some (.slice none 0 0) := (h.drew.cell 1).trans rfl
 have c1' : w.cell? ⟨b, 1, none⟩ = some (.slice none 0 0) := (h.cell 1).trans rfl
 have hSD : (Builtin.unsafeSliceData_ #[71] 136 #[.slice none 0 0]).run Tryz.prog w.drew = .ok (.pointer none) w.drew := Lib.run_unsafeSliceData_nil _ _ _ _ _
 have hUS : (Builtin.unsafeString_ #[136, 3] 9 #[.pointer none, .int .i64 0]).run Tryz.prog w.drew = .ok (.string ⟨#[]⟩) w.drew := Lib.run_unsafeString_none _ _ _ _ _
 clear h
 go_enter Tryz.func37, Tryz.ntmps37
 go_wp2_with fail
 go_region
 all_goals (go_wp2_with fail; go_ret; exact ⟨rfl, bdr (Below.refl _ w) 1⟩)
set_option maxRecDepth 100000 in
set_option maxHeartbeats 2000000 in
theorem line_w (B b : Nat) (out : Bs) (ws : List Bs) (A : Option Addr) (cap : Nat) (w : World) (hp : PenAt B b (Lib.byteCells out) w) (hA : Sl w w.heap.size 1 A ws.length (envC ws)) (hc : ws.length <= cap) (hn : ws ≠ []) (hl : out.length + (joinC 32 ws).length + 1 <= 140737488355327) :
  Calls Tryz.prog 31 #[.slice A ws.length cap, .pointer (some ⟨b, 0, none⟩)] w fun e w' => e = .returned (.tuple #[]) /\ PenAt B b (Lib.byteCells (out ++ (joinC 32 ws ++ [10]))) w' /\ Below B w w' /\ Lib.OthersKept U8 (some b) w w' := by
 have hj := join_p ws 32 A cap w hA hc (List.length_pos_iff.2 hn) (by have := joinC_lenS 32 ws hn; omega)
 obtain ⟨N, hN⟩ : ∃ N, ws.length = N := ⟨_, rfl⟩
 obtain ⟨J, hJ⟩ : ∃ J, joinC 32 ws = J := ⟨_, rfl⟩
 rw [hN, hJ] at hj
 rw [hN, hJ]
 rw [hJ] at hl
 have hlt := pen_lt hp
 have hcat := cat_bytes J [10]
 have HT := Lib.hid (fun W (hb : Below w.heap.size w W) => put_text2 B b out (J ++ [10]) W (pen_later hp hb) (by rw [List.length_append, List.length_singleton]; omega))
 clear hA hc hn hN hJ hp
 unfold strV at hj HT
 go_enter Tryz.func31, Tryz.ntmps31
 go_wp2_with fail
 (refine hj.mono ?_); rintro ev w1 ⟨rfl, hb1⟩
 go_wp2_with fail
 (refine (HT.out _ hb1).mono ?_); rintro ev w2 ⟨rfl, hp2, hb2, hk2⟩
 go_wp2_with fail
 go_end0
 exact ⟨rfl, hp2, (hb1.mono (by omega)).trans hb2, ((Lib.OthersKept.refl U8 (some b) w).below hb1).trans hk2⟩
end Go.Proofs.YtobplngonkdbpaaGreatDoor.D
