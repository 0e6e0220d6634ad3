/- Contract: coerce.Of. -/
import Derived.Test.YtjklecncdinabaaGreatDoorCoH
namespace Go.Proofs.YtjklecncdinabaaGreatDoor.C
open Go.RowKit Go.Proofs.YtjklecncdinabaaGreatDoor.B
open Go.Proofs.YtjklecncdinabaaGreatDoor.T (Ty str strV arB co isB isB_str isB_iff check_any checkL Cons_yes allT askC)
set_option linter.unusedVariables false
set_option linter.unusedSimpArgs false

theorem good_any (s : ByteArray) (w : World) (hs : s.size ≤ 4611686018427387904) : Calls Tryz.prog 46 #[.string s] w fun e w' => e = .returned (.bool (isB s)) ∧ w = w' := by
  have h := check_any s w hs
  unfold isB
  generalize checkL s.data.toList = c at *
  obtain ⟨a, b⟩ := c
  have ha : ((a : Int) == 0) = (a == 0) := by rw [Bool.eq_iff_iff]; simp
  simp only at h ⊢
  obtain ⟨r, hr⟩ : ∃ r, (a == 0) = r := ⟨_, rfl⟩
  rw [hr] at ha ⊢
  clear hr hs
  go_enter Tryz.func46, Tryz.ntmps46
  go_wp2_with fail
  (refine h.mono ?_); rintro ev w1 ⟨rfl, rfl⟩
  go_wp2_with fail
  go_ret
  exact ⟨rfl, rfl⟩

def ofD (S T : Ty) : Nat := 2 * (S.code.length + T.code.length) + 2
theorem ms_le (S T : Ty) : ms S T ≤ ofD S T := by unfold ms ofD; split <;> omega

def OfR (l : List Nd) (E : Int) (w : World) (e : Ending) (w' : World) : Prop := ∃ V, e = .returned (.tuple #[V, .int .i64 E]) ∧ w'.ownsRow w.heap.size 28 7 V l.length (nds l) ∧ Below w.heap.size w w'
theorem OfR.none (E : Int) {w w' : World} (hb : Below w.heap.size w w') : OfR [] E w (.returned (.tuple #[.slice none 0 0, .int .i64 E])) w' := ⟨_, rfl, World.ownsRow_nil _ _ _ _, hb⟩

set_option maxHeartbeats 1000000 in
theorem Of_yes (S T : Ty) (p : Int) (w : World) (hS : S.ok) (hT : T.ok) (hS64 : S.code.length ≤ 64) (hT64 : T.code.length ≤ 64) (hc : co S T) (hp : lblB p = true) (hlen : (mk (ofD S T) S T p).list.length ≤ 1000000) :
    Calls Tryz.prog 16 #[.string (str S), .string (str T), .int .i64 p] w fun e w' => OfR (mk (ofD S T) S T p).list 0 w e w' := by
  have g1 := fun W => good_any (str S) W (by simp [str]; omega)
  have g2 := fun W => good_any (str T) W (by simp [str]; omega)
  rw [isB_str hS hS64] at g1
  rw [isB_str hT hT64] at g2
  have hco := fun W => Cons_yes S T W hS hT hS64 hT64
  have hc' : allT askC S T = true := hc
  rw [hc'] at hco
  have hl := fun W => label_any p W
  rw [hp] at hl
  have hpb : lbl p := lblB_iff.1 hp
  have hm := fun W => make_any (ofD S T) S T p W hS hT hS64 hT64 hc (ms_le S T) (by have := hpb.2; omega) (by have := hpb.2; omega)
  generalize mk (ofD S T) S T p = M at *
  generalize str S = s at *
  generalize str T = t at *
  have HG1 := Lib.hid g1
  have HG2 := Lib.hid g2
  have HCO := Lib.hid hco
  have HL := Lib.hid hl
  have HM := Lib.hid hm
  have HLN := Lib.hid hlen
  clear g1 g2 hco hc hc' hl hp hpb hm hlen hS hT hS64 hT64
  go_enter Tryz.func16, Tryz.ntmps16
  go_wp2_with fail
  (refine (HG1.out _).mono ?_); rintro ev w1 ⟨rfl, rfl⟩
  go_wp2_with fail
  (refine (HG2.out _).mono ?_); rintro ev w1 ⟨rfl, rfl⟩
  go_wp2_with fail
  (refine (HCO.out _).mono ?_); rintro ev w1 ⟨rfl, hb1⟩
  go_wp2_with fail
  (refine (HL.out _).mono ?_); rintro ev w2 ⟨rfl, rfl⟩
  go_wp2_with fail
  (refine (HM.out _).mono ?_); rintro ev w2 ⟨v, rfl, hv, hb2⟩
  have hb02 := bl hb1 hb2
  have hlist := list_any M v (.slice none 0 0) _ w.heap.size [] w2 hv (fun b _ h => by cases h) (World.ownsRow_nil _ _ _ _) hb02.size (by simpa using HLN.out)
  clear hv
  go_wp2_with fail
  (refine hlist.mono ?_); rintro ev w5 ⟨V5, rfl, ho5, hg5, hx5⟩
  clear hlist
  go_wp2_with fail
  go_ret2
  exact ⟨_, rfl, by simpa using ho5, hb02.grown hg5 hb02.size (by simp [Value.ownBlock])⟩
end Go.Proofs.YtjklecncdinabaaGreatDoor.C
