/- Parts of this claim: JuA. -/
import Derived.Test.YtmagljnlfponaaaGreatP10
import Derived.Test.YtmagljnlfponaaaGreatP05
import Derived.Test.YtmagljnlfponaaaGreatP08
import Derived.Test.YtmagljnlfponaaaGreatP25
set_option linter.unusedVariables false
set_option linter.unusedSimpArgs false
/- JuA -/
namespace Go.Proofs.YtmagljnlfponaaaGreat.J
open Go.RowKit Go.Proofs.YtmagljnlfponaaaGreat.B Go.Proofs.YtmagljnlfponaaaGreat.T Go.Proofs.YtmagljnlfponaaaGreat.K
set_option linter.unusedVariables false
set_option linter.unusedSimpArgs false

def fv (F : Nat) : Value := .func (.func F) #[] #[]
theorem turned_any (F G : Nat) (w : World) : Calls Tryz.prog 106 #[.agg #[fv F, fv G]] w fun e w' => e = .returned (.agg #[fv G, fv F]) ∧ Below w.heap.size w w' := by
  unfold fv
  go_enter Tryz.func106, Tryz.ntmps106
  go_wp2_with fail
  refine bodyPost_ret (v := .agg #[.func (.func G) #[] #[], .func (.func F) #[] #[]]) (by simp [results, Tryz.results106, go_sem]) rfl ⟨rfl, ?_⟩
  exact bal (bal b0 _) _
/-- What is asked of two types, by one function. -/
def AskQ (F : Nat) (s t : ByteArray) (r : Bool) : Prop := ∀ w, Calls Tryz.prog F #[.string s, .string t] w fun e w' => e = .returned (.bool r) ∧ Below w.heap.size w w'


set_option maxRecDepth 100000 in
set_option maxHeartbeats 4000000 in
theorem parts_62tp (a b c d : Ty) (w : World) (h1 : AskQ 81 (str c) (str a) true) (q : Bool) (h2 : AskQ 80 (str b) (str d) q) (hS : (Ty.bin 62 a b).ok) (hT : (Ty.bin 62 c d).ok) (hS64 : (Ty.bin 62 a b).code.length ≤ 64) (hT64 : (Ty.bin 62 c d).code.length ≤ 64) :
    Calls Tryz.prog 95 #[.string (str (Ty.bin 62 a b)), .string (str (Ty.bin 62 c d)), .agg #[fv 80, fv 81]] w fun e w' => e = .returned (.bool q) ∧ Below w.heap.size w w' := by
  have hP1 := fun W => Parts_yes (Ty.bin 62 a b) W hS hS64
  have hP2 := fun W => Parts_yes (Ty.bin 62 c d) W hT hT64
  have hH := fun W => Head_yes (Ty.bin 62 a b) W hS hS64
  rw [show ((Ty.bin 62 a b).head.toNat : Int) = 62 from rfl] at hH
  unfold PartsR at hP1 hP2
  simp only [Ty.kids] at hP1 hP2
  generalize str (Ty.bin 62 a b) = s at *
  generalize str (Ty.bin 62 c d) = t at *
  have H1 := Lib.hid h1
  have HT := Lib.hid turned_any
  have HP1 := Lib.hid hP1
  have HP2 := Lib.hid hP2
  have HH := Lib.hid hH
  have H2 := Lib.hid h2
  clear h1 hP1 hP2 hH h2
  unfold fv
  unfold fv at HT
  go_enter Tryz.func95, Tryz.ntmps95
  have hfl : ∀ wq, (Instr.field 140 (.agg #[.func (.func 81) #[] #[], .func (.func 80) #[] #[]]) 0).run Tryz.prog wq = .ok (.func (.func 81) #[] #[]) wq := fun wq => by kernel_rfl
  go_wp2_with fail
  (refine (HP1.out _).mono ?_); rintro e w1 ⟨V1, rfl, ho1, hb1⟩
  obtain ⟨g1, c1, rfl, hc1, hg1, hp1⟩ := parts_row ho1 (by simp)
  go_wp2_with fail
  (refine (HP2.out _).mono ?_); rintro e w2 ⟨V2, rfl, ho2, hb2⟩
  obtain ⟨g2, c2, rfl, hc2, hg2, hp2⟩ := parts_row ho2 (by simp)
  simp only [List.length_cons, List.length_nil, Nat.zero_add] at hc1 hc2
  obtain ⟨W0, hW0⟩ : ∃ W0, w.alloc (.cells #[.func (.func 80) #[] #[], .func (.func 81) #[] #[]] 140) = W0 := ⟨_, rfl⟩
  have hbk : Blk W0 w.heap.size 140 #[.func (.func 80) #[] #[], .func (.func 81) #[] #[]] := by rw [← hW0]; exact Blk.new _ _ _
  have hbw : Below w.heap.size w W0 := by rw [← hW0]; exact bal b0 _
  rw [hW0] at hb1
  have hb02 : Below W0.heap.size W0 w2 := bl hb1 hb2
  have hbw2 : Below w.heap.size w w2 := bl hbw hb02
  have hbk2 := hbk.below hb02 hbk.lt
  have HK := Lib.hid (show ∀ W', Below w2.heap.size w2 W' → (Below w.heap.size w W' ∧ Below w2.heap.size w2 W' ∧ W'.cell? ⟨w.heap.size, 0, none⟩ = some (.func (.func 80) #[] #[]) ∧ W'.cell? ⟨w.heap.size, 1, none⟩ = some (.func (.func 81) #[] #[]) ∧ W'.cell? ⟨g1, 0, none⟩ = some (.string (str a)) ∧ W'.cell? ⟨g1, 1, none⟩ = some (.string (str b)) ∧ W'.cell? ⟨g2, 0, none⟩ = some (.string (str c)) ∧ W'.cell? ⟨g2, 1, none⟩ = some (.string (str d))) from fun W' hb' => ⟨bl hbw2 hb', hb', ((hbk2.below hb' hbk2.lt).cell 0).trans rfl, ((hbk2.below hb' hbk2.lt).cell 1).trans rfl, ((bl hb2 hb').cell (p := ⟨g1, 0, none⟩) hg1).trans (hp1 0 _ rfl), ((bl hb2 hb').cell (p := ⟨g1, 1, none⟩) hg1).trans (hp1 1 _ rfl), (hb'.cell (p := ⟨g2, 0, none⟩) hg2).trans (hp2 0 _ rfl), (hb'.cell (p := ⟨g2, 1, none⟩) hg2).trans (hp2 1 _ rfl)⟩)
  clear hbk hbw hW0 hb1 hb2 hb02 hbw2 hbk2 ho1 ho2 hp1 hp2
  go_wp2_with fail
  (refine (HH.out _).mono ?_); rintro e w4 ⟨rfl, rfl⟩
  go_upto_region 4 with fail
  refine wp_region_held_drew (S := (fun W' => Below w.heap.size w W' ∧ Below w2.heap.size w2 W' ∧ W'.cell? ⟨w.heap.size, 0, none⟩ = some (.func (.func 80) #[] #[]) ∧ W'.cell? ⟨w.heap.size, 1, none⟩ = some (.func (.func 81) #[] #[]) ∧ W'.cell? ⟨g1, 0, none⟩ = some (.string (str a)) ∧ W'.cell? ⟨g1, 1, none⟩ = some (.string (str b)) ∧ W'.cell? ⟨g2, 0, none⟩ = some (.string (str c)) ∧ W'.cell? ⟨g2, 1, none⟩ = some (.string (str d)))) (by kernel_rfl) ?ss1 (fun hHeld => ?rr1)
  case ss1 => (try dsimp only); exact HK.out _ (Below.refl _ _).drew
  refine rgt 0 17 rfl rfl hHeld ?_
  try simp only [Act.put, rg1, rg2, rg3]
  refine rgt 3 20 rfl rfl hHeld ?_
  try simp only [Act.put, rg1, rg2, rg3]
  refine rgt 4 21 rfl rfl hHeld ?_
  try simp only [Act.put, rg1, rg2, rg3]
  refine rgt 5 22 rfl rfl hHeld ?_
  try simp only [Act.put, rg1, rg2, rg3]
  refine rgt 6 23 rfl rfl hHeld ?_
  try simp only [Act.put, rg1, rg2, rg3]
  refine rgt 7 24 rfl rfl hHeld ?_
  try simp only [Act.put, rg1, rg2, rg3]
  refine rgt 8 25 rfl rfl hHeld ?_
  try simp only [Act.put, rg1, rg2, rg3]
  refine rgc 1 (some 18) rfl (fun K hK => ?_)
  go_simp
  ((refine (HT.out _ _ _).mono ?_); rintro e w6 ⟨rfl, hb6⟩)
  refine hK.out _ _ ?ss9 (fun hHeld2 => ?rr9)
  case ss9 => (try dsimp only); exact HK.out _ (bl hHeld.2.1 hb6)
  clear hK K
  clear hHeld
  have hHeld := hHeld2
  clear hHeld2
  try simp only [Act.put, rg1, rg2, rg3]
  refine rgt 2 19 rfl rfl hHeld ?_
  try simp only [Act.put, rg1, rg2, rg3]
  refine rgc 9 (some 26) rfl (fun K hK => ?_)
  go_simp
  ((refine (H1.out _).mono ?_); rintro e w6 ⟨rfl, hb6⟩)
  refine hK.out _ _ ?ss11 (fun hHeld2 => ?rr11)
  case ss11 => (try dsimp only); exact HK.out _ (bl hHeld.2.1 hb6)
  clear hK K
  clear hHeld
  have hHeld := hHeld2
  clear hHeld2
  try simp only [Act.put, rg1, rg2, rg3]
  refine rgt 10 27 rfl rfl hHeld ?_
  try simp only [Act.put, rg1, rg2, rg3]
  refine rgt 11 28 rfl rfl hHeld ?_
  try simp only [Act.put, rg1, rg2, rg3]
  refine rgt 12 29 rfl rfl hHeld ?_
  try simp only [Act.put, rg1, rg2, rg3]
  refine rgt 13 30 rfl rfl hHeld ?_
  try simp only [Act.put, rg1, rg2, rg3]
  refine rgt 14 31 rfl rfl hHeld ?_
  try simp only [Act.put, rg1, rg2, rg3]
  refine rgt 15 32 rfl rfl hHeld ?_
  try simp only [Act.put, rg1, rg2, rg3]
  refine rgt 16 33 rfl rfl hHeld ?_
  try simp only [Act.put, rg1, rg2, rg3]
  refine rgt 17 34 rfl rfl hHeld ?_
  try simp only [Act.put, rg1, rg2, rg3]
  refine rgt 18 35 rfl rfl hHeld ?_
  try simp only [Act.put, rg1, rg2, rg3]
  refine rgc 19 (some 36) rfl (fun K hK => ?_)
  go_simp
  ((refine (H2.out _).mono ?_); rintro e w6 ⟨rfl, hb6⟩)
  refine hK.out _ _ ?ss21 (fun hHeld2 => ?rr21)
  case ss21 => (try dsimp only); exact HK.out _ (bl hHeld.2.1 hb6)
  clear hK K
  clear hHeld
  have hHeld := hHeld2
  clear hHeld2
  try simp only [Act.put, rg1, rg2, rg3]
  refine rgt 20 37 rfl rfl hHeld ?_
  try simp only [Act.put, rg1, rg2, rg3]
  refine rgt 21 6 rfl rfl hHeld ?_
  try simp only [Act.put, rg1, rg2, rg3]
  refine wpAnyH_done (by kernel_rfl) ?_ _
  obtain ⟨hB, _⟩ := hHeld
  have HB2 := Lib.hid hB
  clear hB
  go_wp2_with fail
  go_ret
  exact ⟨rfl, HB2.out⟩

set_option maxRecDepth 100000 in
set_option maxHeartbeats 4000000 in
theorem parts_62fp (a b c d : Ty) (w : World) (h1 : AskQ 81 (str c) (str a) false) (hS : (Ty.bin 62 a b).ok) (hT : (Ty.bin 62 c d).ok) (hS64 : (Ty.bin 62 a b).code.length ≤ 64) (hT64 : (Ty.bin 62 c d).code.length ≤ 64) :
    Calls Tryz.prog 95 #[.string (str (Ty.bin 62 a b)), .string (str (Ty.bin 62 c d)), .agg #[fv 80, fv 81]] w fun e w' => e = .returned (.bool false) ∧ Below w.heap.size w w' := by
  have hP1 := fun W => Parts_yes (Ty.bin 62 a b) W hS hS64
  have hP2 := fun W => Parts_yes (Ty.bin 62 c d) W hT hT64
  have hH := fun W => Head_yes (Ty.bin 62 a b) W hS hS64
  rw [show ((Ty.bin 62 a b).head.toNat : Int) = 62 from rfl] at hH
  unfold PartsR at hP1 hP2
  simp only [Ty.kids] at hP1 hP2
  generalize str (Ty.bin 62 a b) = s at *
  generalize str (Ty.bin 62 c d) = t at *
  have H1 := Lib.hid h1
  have HT := Lib.hid turned_any
  have HP1 := Lib.hid hP1
  have HP2 := Lib.hid hP2
  have HH := Lib.hid hH
  clear h1 hP1 hP2 hH
  unfold fv
  unfold fv at HT
  go_enter Tryz.func95, Tryz.ntmps95
  have hfl : ∀ wq, (Instr.field 140 (.agg #[.func (.func 81) #[] #[], .func (.func 80) #[] #[]]) 0).run Tryz.prog wq = .ok (.func (.func 81) #[] #[]) wq := fun wq => by kernel_rfl
  go_wp2_with fail
  (refine (HP1.out _).mono ?_); rintro e w1 ⟨V1, rfl, ho1, hb1⟩
  obtain ⟨g1, c1, rfl, hc1, hg1, hp1⟩ := parts_row ho1 (by simp)
  go_wp2_with fail
  (refine (HP2.out _).mono ?_); rintro e w2 ⟨V2, rfl, ho2, hb2⟩
  obtain ⟨g2, c2, rfl, hc2, hg2, hp2⟩ := parts_row ho2 (by simp)
  simp only [List.length_cons, List.length_nil, Nat.zero_add] at hc1 hc2
  obtain ⟨W0, hW0⟩ : ∃ W0, w.alloc (.cells #[.func (.func 80) #[] #[], .func (.func 81) #[] #[]] 140) = W0 := ⟨_, rfl⟩
  have hbk : Blk W0 w.heap.size 140 #[.func (.func 80) #[] #[], .func (.func 81) #[] #[]] := by rw [← hW0]; exact Blk.new _ _ _
  have hbw : Below w.heap.size w W0 := by rw [← hW0]; exact bal b0 _
  rw [hW0] at hb1
  have hb02 : Below W0.heap.size W0 w2 := bl hb1 hb2
  have hbw2 : Below w.heap.size w w2 := bl hbw hb02
  have hbk2 := hbk.below hb02 hbk.lt
  have HK := Lib.hid (show ∀ W', Below w2.heap.size w2 W' → (Below w.heap.size w W' ∧ Below w2.heap.size w2 W' ∧ W'.cell? ⟨w.heap.size, 0, none⟩ = some (.func (.func 80) #[] #[]) ∧ W'.cell? ⟨w.heap.size, 1, none⟩ = some (.func (.func 81) #[] #[]) ∧ W'.cell? ⟨g1, 0, none⟩ = some (.string (str a)) ∧ W'.cell? ⟨g1, 1, none⟩ = some (.string (str b)) ∧ W'.cell? ⟨g2, 0, none⟩ = some (.string (str c)) ∧ W'.cell? ⟨g2, 1, none⟩ = some (.string (str d))) from fun W' hb' => ⟨bl hbw2 hb', hb', ((hbk2.below hb' hbk2.lt).cell 0).trans rfl, ((hbk2.below hb' hbk2.lt).cell 1).trans rfl, ((bl hb2 hb').cell (p := ⟨g1, 0, none⟩) hg1).trans (hp1 0 _ rfl), ((bl hb2 hb').cell (p := ⟨g1, 1, none⟩) hg1).trans (hp1 1 _ rfl), (hb'.cell (p := ⟨g2, 0, none⟩) hg2).trans (hp2 0 _ rfl), (hb'.cell (p := ⟨g2, 1, none⟩) hg2).trans (hp2 1 _ rfl)⟩)
  clear hbk hbw hW0 hb1 hb2 hb02 hbw2 hbk2 ho1 ho2 hp1 hp2
  go_wp2_with fail
  (refine (HH.out _).mono ?_); rintro e w4 ⟨rfl, rfl⟩
  go_upto_region 4 with fail
  refine wp_region_held_drew (S := (fun W' => Below w.heap.size w W' ∧ Below w2.heap.size w2 W' ∧ W'.cell? ⟨w.heap.size, 0, none⟩ = some (.func (.func 80) #[] #[]) ∧ W'.cell? ⟨w.heap.size, 1, none⟩ = some (.func (.func 81) #[] #[]) ∧ W'.cell? ⟨g1, 0, none⟩ = some (.string (str a)) ∧ W'.cell? ⟨g1, 1, none⟩ = some (.string (str b)) ∧ W'.cell? ⟨g2, 0, none⟩ = some (.string (str c)) ∧ W'.cell? ⟨g2, 1, none⟩ = some (.string (str d)))) (by kernel_rfl) ?ss24 (fun hHeld => ?rr24)
  case ss24 => (try dsimp only); exact HK.out _ (Below.refl _ _).drew
  refine rgt 0 17 rfl rfl hHeld ?_
  try simp only [Act.put, rg1, rg2, rg3]
  refine rgt 3 20 rfl rfl hHeld ?_
  try simp only [Act.put, rg1, rg2, rg3]
  refine rgt 4 21 rfl rfl hHeld ?_
  try simp only [Act.put, rg1, rg2, rg3]
  refine rgt 5 22 rfl rfl hHeld ?_
  try simp only [Act.put, rg1, rg2, rg3]
  refine rgt 6 23 rfl rfl hHeld ?_
  try simp only [Act.put, rg1, rg2, rg3]
  refine rgt 7 24 rfl rfl hHeld ?_
  try simp only [Act.put, rg1, rg2, rg3]
  refine rgt 8 25 rfl rfl hHeld ?_
  try simp only [Act.put, rg1, rg2, rg3]
  refine rgc 1 (some 18) rfl (fun K hK => ?_)
  go_simp
  ((refine (HT.out _ _ _).mono ?_); rintro e w6 ⟨rfl, hb6⟩)
  refine hK.out _ _ ?ss32 (fun hHeld2 => ?rr32)
  case ss32 => (try dsimp only); exact HK.out _ (bl hHeld.2.1 hb6)
  clear hK K
  clear hHeld
  have hHeld := hHeld2
  clear hHeld2
  try simp only [Act.put, rg1, rg2, rg3]
  refine rgt 2 19 rfl rfl hHeld ?_
  try simp only [Act.put, rg1, rg2, rg3]
  refine rgc 9 (some 26) rfl (fun K hK => ?_)
  go_simp
  ((refine (H1.out _).mono ?_); rintro e w6 ⟨rfl, hb6⟩)
  refine hK.out _ _ ?ss34 (fun hHeld2 => ?rr34)
  case ss34 => (try dsimp only); exact HK.out _ (bl hHeld.2.1 hb6)
  clear hK K
  clear hHeld
  have hHeld := hHeld2
  clear hHeld2
  try simp only [Act.put, rg1, rg2, rg3]
  refine rgt 10 27 rfl rfl hHeld ?_
  try simp only [Act.put, rg1, rg2, rg3]
  refine rgn 11 28 rfl rfl hHeld ?_
  try simp only [Act.put, rg1, rg2, rg3]
  refine rgn 12 29 rfl rfl hHeld ?_
  try simp only [Act.put, rg1, rg2, rg3]
  refine rgn 13 30 rfl rfl hHeld ?_
  try simp only [Act.put, rg1, rg2, rg3]
  refine rgn 14 31 rfl rfl hHeld ?_
  try simp only [Act.put, rg1, rg2, rg3]
  refine rgn 15 32 rfl rfl hHeld ?_
  try simp only [Act.put, rg1, rg2, rg3]
  refine rgn 16 33 rfl rfl hHeld ?_
  try simp only [Act.put, rg1, rg2, rg3]
  refine rgn 17 34 rfl rfl hHeld ?_
  try simp only [Act.put, rg1, rg2, rg3]
  refine rgn 18 35 rfl rfl hHeld ?_
  try simp only [Act.put, rg1, rg2, rg3]
  refine rgn 19 36 rfl rfl hHeld ?_
  try simp only [Act.put, rg1, rg2, rg3]
  refine rgt 20 37 rfl rfl hHeld ?_
  try simp only [Act.put, rg1, rg2, rg3]
  refine rgt 21 6 rfl rfl hHeld ?_
  try simp only [Act.put, rg1, rg2, rg3]
  refine wpAnyH_done (by kernel_rfl) ?_ _
  obtain ⟨hB, _⟩ := hHeld
  have HB2 := Lib.hid hB
  clear hB
  go_wp2_with fail
  go_ret
  exact ⟨rfl, HB2.out⟩

set_option maxRecDepth 100000 in
set_option maxHeartbeats 4000000 in
theorem parts_44tp (a b c d : Ty) (w : World) (h1 : AskQ 80 (str a) (str c) true) (q : Bool) (h2 : AskQ 80 (str b) (str d) q) (hS : (Ty.bin 44 a b).ok) (hT : (Ty.bin 44 c d).ok) (hS64 : (Ty.bin 44 a b).code.length ≤ 64) (hT64 : (Ty.bin 44 c d).code.length ≤ 64) :
    Calls Tryz.prog 95 #[.string (str (Ty.bin 44 a b)), .string (str (Ty.bin 44 c d)), .agg #[fv 80, fv 81]] w fun e w' => e = .returned (.bool q) ∧ Below w.heap.size w w' := by
  have hP1 := fun W => Parts_yes (Ty.bin 44 a b) W hS hS64
  have hP2 := fun W => Parts_yes (Ty.bin 44 c d) W hT hT64
  have hH := fun W => Head_yes (Ty.bin 44 a b) W hS hS64
  rw [show ((Ty.bin 44 a b).head.toNat : Int) = 44 from rfl] at hH
  unfold PartsR at hP1 hP2
  simp only [Ty.kids] at hP1 hP2
  generalize str (Ty.bin 44 a b) = s at *
  generalize str (Ty.bin 44 c d) = t at *
  have H1 := Lib.hid h1
  have HT := Lib.hid turned_any
  have HP1 := Lib.hid hP1
  have HP2 := Lib.hid hP2
  have HH := Lib.hid hH
  have H2 := Lib.hid h2
  clear h1 hP1 hP2 hH h2
  unfold fv
  unfold fv at HT
  go_enter Tryz.func95, Tryz.ntmps95
  have hfl : ∀ wq, (Instr.field 140 (.agg #[.func (.func 81) #[] #[], .func (.func 80) #[] #[]]) 0).run Tryz.prog wq = .ok (.func (.func 81) #[] #[]) wq := fun wq => by kernel_rfl
  go_wp2_with fail
  (refine (HP1.out _).mono ?_); rintro e w1 ⟨V1, rfl, ho1, hb1⟩
  obtain ⟨g1, c1, rfl, hc1, hg1, hp1⟩ := parts_row ho1 (by simp)
  go_wp2_with fail
  (refine (HP2.out _).mono ?_); rintro e w2 ⟨V2, rfl, ho2, hb2⟩
  obtain ⟨g2, c2, rfl, hc2, hg2, hp2⟩ := parts_row ho2 (by simp)
  simp only [List.length_cons, List.length_nil, Nat.zero_add] at hc1 hc2
  obtain ⟨W0, hW0⟩ : ∃ W0, w.alloc (.cells #[.func (.func 80) #[] #[], .func (.func 81) #[] #[]] 140) = W0 := ⟨_, rfl⟩
  have hbk : Blk W0 w.heap.size 140 #[.func (.func 80) #[] #[], .func (.func 81) #[] #[]] := by rw [← hW0]; exact Blk.new _ _ _
  have hbw : Below w.heap.size w W0 := by rw [← hW0]; exact bal b0 _
  rw [hW0] at hb1
  have hb02 : Below W0.heap.size W0 w2 := bl hb1 hb2
  have hbw2 : Below w.heap.size w w2 := bl hbw hb02
  have hbk2 := hbk.below hb02 hbk.lt
  have HK := Lib.hid (show ∀ W', Below w2.heap.size w2 W' → (Below w.heap.size w W' ∧ Below w2.heap.size w2 W' ∧ W'.cell? ⟨w.heap.size, 0, none⟩ = some (.func (.func 80) #[] #[]) ∧ W'.cell? ⟨w.heap.size, 1, none⟩ = some (.func (.func 81) #[] #[]) ∧ W'.cell? ⟨g1, 0, none⟩ = some (.string (str a)) ∧ W'.cell? ⟨g1, 1, none⟩ = some (.string (str b)) ∧ W'.cell? ⟨g2, 0, none⟩ = some (.string (str c)) ∧ W'.cell? ⟨g2, 1, none⟩ = some (.string (str d))) from fun W' hb' => ⟨bl hbw2 hb', hb', ((hbk2.below hb' hbk2.lt).cell 0).trans rfl, ((hbk2.below hb' hbk2.lt).cell 1).trans rfl, ((bl hb2 hb').cell (p := ⟨g1, 0, none⟩) hg1).trans (hp1 0 _ rfl), ((bl hb2 hb').cell (p := ⟨g1, 1, none⟩) hg1).trans (hp1 1 _ rfl), (hb'.cell (p := ⟨g2, 0, none⟩) hg2).trans (hp2 0 _ rfl), (hb'.cell (p := ⟨g2, 1, none⟩) hg2).trans (hp2 1 _ rfl)⟩)
  clear hbk hbw hW0 hb1 hb2 hb02 hbw2 hbk2 ho1 ho2 hp1 hp2
  go_wp2_with fail
  (refine (HH.out _).mono ?_); rintro e w4 ⟨rfl, rfl⟩
  go_upto_region 6 with fail
  refine wp_region_held_drew (S := (fun W' => Below w.heap.size w W' ∧ Below w2.heap.size w2 W' ∧ W'.cell? ⟨w.heap.size, 0, none⟩ = some (.func (.func 80) #[] #[]) ∧ W'.cell? ⟨w.heap.size, 1, none⟩ = some (.func (.func 81) #[] #[]) ∧ W'.cell? ⟨g1, 0, none⟩ = some (.string (str a)) ∧ W'.cell? ⟨g1, 1, none⟩ = some (.string (str b)) ∧ W'.cell? ⟨g2, 0, none⟩ = some (.string (str c)) ∧ W'.cell? ⟨g2, 1, none⟩ = some (.string (str d)))) (by kernel_rfl) ?ss47 (fun hHeld => ?rr47)
  case ss47 => (try dsimp only); exact HK.out _ (Below.refl _ _).drew
  refine rgt 0 40 rfl rfl hHeld ?_
  try simp only [Act.put, rg1, rg2, rg3]
  refine rgt 1 41 rfl rfl hHeld ?_
  try simp only [Act.put, rg1, rg2, rg3]
  refine rgt 2 42 rfl rfl hHeld ?_
  try simp only [Act.put, rg1, rg2, rg3]
  refine rgt 3 43 rfl rfl hHeld ?_
  try simp only [Act.put, rg1, rg2, rg3]
  refine rgt 4 44 rfl rfl hHeld ?_
  try simp only [Act.put, rg1, rg2, rg3]
  refine rgt 5 45 rfl rfl hHeld ?_
  try simp only [Act.put, rg1, rg2, rg3]
  refine rgt 6 46 rfl rfl hHeld ?_
  try simp only [Act.put, rg1, rg2, rg3]
  refine rgt 7 47 rfl rfl hHeld ?_
  try simp only [Act.put, rg1, rg2, rg3]
  refine rgc 8 (some 48) rfl (fun K hK => ?_)
  go_simp
  ((refine (H1.out _).mono ?_); rintro e w6 ⟨rfl, hb6⟩)
  refine hK.out _ _ ?ss56 (fun hHeld2 => ?rr56)
  case ss56 => (try dsimp only); exact HK.out _ (bl hHeld.2.1 hb6)
  clear hK K
  clear hHeld
  have hHeld := hHeld2
  clear hHeld2
  try simp only [Act.put, rg1, rg2, rg3]
  refine rgt 9 49 rfl rfl hHeld ?_
  try simp only [Act.put, rg1, rg2, rg3]
  refine rgt 10 50 rfl rfl hHeld ?_
  try simp only [Act.put, rg1, rg2, rg3]
  refine rgt 11 51 rfl rfl hHeld ?_
  try simp only [Act.put, rg1, rg2, rg3]
  refine rgt 12 52 rfl rfl hHeld ?_
  try simp only [Act.put, rg1, rg2, rg3]
  refine rgt 13 53 rfl rfl hHeld ?_
  try simp only [Act.put, rg1, rg2, rg3]
  refine rgt 14 54 rfl rfl hHeld ?_
  try simp only [Act.put, rg1, rg2, rg3]
  refine rgt 15 55 rfl rfl hHeld ?_
  try simp only [Act.put, rg1, rg2, rg3]
  refine rgt 16 56 rfl rfl hHeld ?_
  try simp only [Act.put, rg1, rg2, rg3]
  refine rgt 17 57 rfl rfl hHeld ?_
  try simp only [Act.put, rg1, rg2, rg3]
  refine rgc 18 (some 58) rfl (fun K hK => ?_)
  go_simp
  ((refine (H2.out _).mono ?_); rintro e w6 ⟨rfl, hb6⟩)
  refine hK.out _ _ ?ss66 (fun hHeld2 => ?rr66)
  case ss66 => (try dsimp only); exact HK.out _ (bl hHeld.2.1 hb6)
  clear hK K
  clear hHeld
  have hHeld := hHeld2
  clear hHeld2
  try simp only [Act.put, rg1, rg2, rg3]
  refine rgt 19 59 rfl rfl hHeld ?_
  try simp only [Act.put, rg1, rg2, rg3]
  refine rgt 20 6 rfl rfl hHeld ?_
  try simp only [Act.put, rg1, rg2, rg3]
  refine wpAnyH_done (by kernel_rfl) ?_ _
  obtain ⟨hB, _⟩ := hHeld
  have HB2 := Lib.hid hB
  clear hB
  go_wp2_with fail
  go_ret
  exact ⟨rfl, HB2.out⟩

set_option maxRecDepth 100000 in
set_option maxHeartbeats 4000000 in
theorem parts_44fp (a b c d : Ty) (w : World) (h1 : AskQ 80 (str a) (str c) false) (hS : (Ty.bin 44 a b).ok) (hT : (Ty.bin 44 c d).ok) (hS64 : (Ty.bin 44 a b).code.length ≤ 64) (hT64 : (Ty.bin 44 c d).code.length ≤ 64) :
    Calls Tryz.prog 95 #[.string (str (Ty.bin 44 a b)), .string (str (Ty.bin 44 c d)), .agg #[fv 80, fv 81]] w fun e w' => e = .returned (.bool false) ∧ Below w.heap.size w w' := by
  have hP1 := fun W => Parts_yes (Ty.bin 44 a b) W hS hS64
  have hP2 := fun W => Parts_yes (Ty.bin 44 c d) W hT hT64
  have hH := fun W => Head_yes (Ty.bin 44 a b) W hS hS64
  rw [show ((Ty.bin 44 a b).head.toNat : Int) = 44 from rfl] at hH
  unfold PartsR at hP1 hP2
  simp only [Ty.kids] at hP1 hP2
  generalize str (Ty.bin 44 a b) = s at *
  generalize str (Ty.bin 44 c d) = t at *
  have H1 := Lib.hid h1
  have HT := Lib.hid turned_any
  have HP1 := Lib.hid hP1
  have HP2 := Lib.hid hP2
  have HH := Lib.hid hH
  clear h1 hP1 hP2 hH
  unfold fv
  unfold fv at HT
  go_enter Tryz.func95, Tryz.ntmps95
  have hfl : ∀ wq, (Instr.field 140 (.agg #[.func (.func 81) #[] #[], .func (.func 80) #[] #[]]) 0).run Tryz.prog wq = .ok (.func (.func 81) #[] #[]) wq := fun wq => by kernel_rfl
  go_wp2_with fail
  (refine (HP1.out _).mono ?_); rintro e w1 ⟨V1, rfl, ho1, hb1⟩
  obtain ⟨g1, c1, rfl, hc1, hg1, hp1⟩ := parts_row ho1 (by simp)
  go_wp2_with fail
  (refine (HP2.out _).mono ?_); rintro e w2 ⟨V2, rfl, ho2, hb2⟩
  obtain ⟨g2, c2, rfl, hc2, hg2, hp2⟩ := parts_row ho2 (by simp)
  simp only [List.length_cons, List.length_nil, Nat.zero_add] at hc1 hc2
  obtain ⟨W0, hW0⟩ : ∃ W0, w.alloc (.cells #[.func (.func 80) #[] #[], .func (.func 81) #[] #[]] 140) = W0 := ⟨_, rfl⟩
  have hbk : Blk W0 w.heap.size 140 #[.func (.func 80) #[] #[], .func (.func 81) #[] #[]] := by rw [← hW0]; exact Blk.new _ _ _
  have hbw : Below w.heap.size w W0 := by rw [← hW0]; exact bal b0 _
  rw [hW0] at hb1
  have hb02 : Below W0.heap.size W0 w2 := bl hb1 hb2
  have hbw2 : Below w.heap.size w w2 := bl hbw hb02
  have hbk2 := hbk.below hb02 hbk.lt
  have HK := Lib.hid (show ∀ W', Below w2.heap.size w2 W' → (Below w.heap.size w W' ∧ Below w2.heap.size w2 W' ∧ W'.cell? ⟨w.heap.size, 0, none⟩ = some (.func (.func 80) #[] #[]) ∧ W'.cell? ⟨w.heap.size, 1, none⟩ = some (.func (.func 81) #[] #[]) ∧ W'.cell? ⟨g1, 0, none⟩ = some (.string (str a)) ∧ W'.cell? ⟨g1, 1, none⟩ = some (.string (str b)) ∧ W'.cell? ⟨g2, 0, none⟩ = some (.string (str c)) ∧ W'.cell? ⟨g2, 1, none⟩ = some (.string (str d))) from fun W' hb' => ⟨bl hbw2 hb', hb', ((hbk2.below hb' hbk2.lt).cell 0).trans rfl, ((hbk2.below hb' hbk2.lt).cell 1).trans rfl, ((bl hb2 hb').cell (p := ⟨g1, 0, none⟩) hg1).trans (hp1 0 _ rfl), ((bl hb2 hb').cell (p := ⟨g1, 1, none⟩) hg1).trans (hp1 1 _ rfl), (hb'.cell (p := ⟨g2, 0, none⟩) hg2).trans (hp2 0 _ rfl), (hb'.cell (p := ⟨g2, 1, none⟩) hg2).trans (hp2 1 _ rfl)⟩)
  clear hbk hbw hW0 hb1 hb2 hb02 hbw2 hbk2 ho1 ho2 hp1 hp2
  go_wp2_with fail
  (refine (HH.out _).mono ?_); rintro e w4 ⟨rfl, rfl⟩
  go_upto_region 6 with fail
  refine wp_region_held_drew (S := (fun W' => Below w.heap.size w W' ∧ Below w2.heap.size w2 W' ∧ W'.cell? ⟨w.heap.size, 0, none⟩ = some (.func (.func 80) #[] #[]) ∧ W'.cell? ⟨w.heap.size, 1, none⟩ = some (.func (.func 81) #[] #[]) ∧ W'.cell? ⟨g1, 0, none⟩ = some (.string (str a)) ∧ W'.cell? ⟨g1, 1, none⟩ = some (.string (str b)) ∧ W'.cell? ⟨g2, 0, none⟩ = some (.string (str c)) ∧ W'.cell? ⟨g2, 1, none⟩ = some (.string (str d)))) (by kernel_rfl) ?ss69 (fun hHeld => ?rr69)
  case ss69 => (try dsimp only); exact HK.out _ (Below.refl _ _).drew
  refine rgt 0 40 rfl rfl hHeld ?_
  try simp only [Act.put, rg1, rg2, rg3]
  refine rgt 1 41 rfl rfl hHeld ?_
  try simp only [Act.put, rg1, rg2, rg3]
  refine rgt 2 42 rfl rfl hHeld ?_
  try simp only [Act.put, rg1, rg2, rg3]
  refine rgt 3 43 rfl rfl hHeld ?_
  try simp only [Act.put, rg1, rg2, rg3]
  refine rgt 4 44 rfl rfl hHeld ?_
  try simp only [Act.put, rg1, rg2, rg3]
  refine rgt 5 45 rfl rfl hHeld ?_
  try simp only [Act.put, rg1, rg2, rg3]
  refine rgt 6 46 rfl rfl hHeld ?_
  try simp only [Act.put, rg1, rg2, rg3]
  refine rgt 7 47 rfl rfl hHeld ?_
  try simp only [Act.put, rg1, rg2, rg3]
  refine rgc 8 (some 48) rfl (fun K hK => ?_)
  go_simp
  ((refine (H1.out _).mono ?_); rintro e w6 ⟨rfl, hb6⟩)
  refine hK.out _ _ ?ss78 (fun hHeld2 => ?rr78)
  case ss78 => (try dsimp only); exact HK.out _ (bl hHeld.2.1 hb6)
  clear hK K
  clear hHeld
  have hHeld := hHeld2
  clear hHeld2
  try simp only [Act.put, rg1, rg2, rg3]
  refine rgt 9 49 rfl rfl hHeld ?_
  try simp only [Act.put, rg1, rg2, rg3]
  refine rgn 10 50 rfl rfl hHeld ?_
  try simp only [Act.put, rg1, rg2, rg3]
  refine rgn 11 51 rfl rfl hHeld ?_
  try simp only [Act.put, rg1, rg2, rg3]
  refine rgn 12 52 rfl rfl hHeld ?_
  try simp only [Act.put, rg1, rg2, rg3]
  refine rgn 13 53 rfl rfl hHeld ?_
  try simp only [Act.put, rg1, rg2, rg3]
  refine rgn 14 54 rfl rfl hHeld ?_
  try simp only [Act.put, rg1, rg2, rg3]
  refine rgn 15 55 rfl rfl hHeld ?_
  try simp only [Act.put, rg1, rg2, rg3]
  refine rgn 16 56 rfl rfl hHeld ?_
  try simp only [Act.put, rg1, rg2, rg3]
  refine rgn 17 57 rfl rfl hHeld ?_
  try simp only [Act.put, rg1, rg2, rg3]
  refine rgn 18 58 rfl rfl hHeld ?_
  try simp only [Act.put, rg1, rg2, rg3]
  refine rgt 19 59 rfl rfl hHeld ?_
  try simp only [Act.put, rg1, rg2, rg3]
  refine rgt 20 6 rfl rfl hHeld ?_
  try simp only [Act.put, rg1, rg2, rg3]
  refine wpAnyH_done (by kernel_rfl) ?_ _
  obtain ⟨hB, _⟩ := hHeld
  have HB2 := Lib.hid hB
  clear hB
  go_wp2_with fail
  go_ret
  exact ⟨rfl, HB2.out⟩

set_option maxRecDepth 100000 in
set_option maxHeartbeats 4000000 in
theorem parts_108p (a c : Ty) (w : World) (p : Bool) (h1 : AskQ 80 (str a) (str c) p) (hS : (Ty.un 108 a).ok) (hT : (Ty.un 108 c).ok) (hS64 : (Ty.un 108 a).code.length ≤ 64) (hT64 : (Ty.un 108 c).code.length ≤ 64) :
    Calls Tryz.prog 95 #[.string (str (Ty.un 108 a)), .string (str (Ty.un 108 c)), .agg #[fv 80, fv 81]] w fun e w' => e = .returned (.bool p) ∧ Below w.heap.size w w' := by
  have hP1 := fun W => Parts_yes (Ty.un 108 a) W hS hS64
  have hP2 := fun W => Parts_yes (Ty.un 108 c) W hT hT64
  have hH := fun W => Head_yes (Ty.un 108 a) W hS hS64
  rw [show ((Ty.un 108 a).head.toNat : Int) = 108 from rfl] at hH
  unfold PartsR at hP1 hP2
  simp only [Ty.kids] at hP1 hP2
  generalize str (Ty.un 108 a) = s at *
  generalize str (Ty.un 108 c) = t at *
  have H1 := Lib.hid h1
  have HT := Lib.hid turned_any
  have HP1 := Lib.hid hP1
  have HP2 := Lib.hid hP2
  have HH := Lib.hid hH
  clear h1 hP1 hP2 hH
  unfold fv
  unfold fv at HT
  go_enter Tryz.func95, Tryz.ntmps95
  have hfl : ∀ wq, (Instr.field 140 (.agg #[.func (.func 81) #[] #[], .func (.func 80) #[] #[]]) 0).run Tryz.prog wq = .ok (.func (.func 81) #[] #[]) wq := fun wq => by kernel_rfl
  go_wp2_with fail
  (refine (HP1.out _).mono ?_); rintro e w1 ⟨V1, rfl, ho1, hb1⟩
  obtain ⟨g1, c1, rfl, hc1, hg1, hp1⟩ := parts_row ho1 (by simp)
  go_wp2_with fail
  (refine (HP2.out _).mono ?_); rintro e w2 ⟨V2, rfl, ho2, hb2⟩
  obtain ⟨g2, c2, rfl, hc2, hg2, hp2⟩ := parts_row ho2 (by simp)
  simp only [List.length_cons, List.length_nil, Nat.zero_add] at hc1 hc2
  obtain ⟨W0, hW0⟩ : ∃ W0, w.alloc (.cells #[.func (.func 80) #[] #[], .func (.func 81) #[] #[]] 140) = W0 := ⟨_, rfl⟩
  have hbk : Blk W0 w.heap.size 140 #[.func (.func 80) #[] #[], .func (.func 81) #[] #[]] := by rw [← hW0]; exact Blk.new _ _ _
  have hbw : Below w.heap.size w W0 := by rw [← hW0]; exact bal b0 _
  rw [hW0] at hb1
  have hb02 : Below W0.heap.size W0 w2 := bl hb1 hb2
  have hbw2 : Below w.heap.size w w2 := bl hbw hb02
  have hbk2 := hbk.below hb02 hbk.lt
  have HK := Lib.hid (show ∀ W', Below w2.heap.size w2 W' → (Below w.heap.size w W' ∧ Below w2.heap.size w2 W' ∧ W'.cell? ⟨w.heap.size, 0, none⟩ = some (.func (.func 80) #[] #[]) ∧ W'.cell? ⟨w.heap.size, 1, none⟩ = some (.func (.func 81) #[] #[]) ∧ W'.cell? ⟨g1, 0, none⟩ = some (.string (str a)) ∧ W'.cell? ⟨g2, 0, none⟩ = some (.string (str c))) from fun W' hb' => ⟨bl hbw2 hb', hb', ((hbk2.below hb' hbk2.lt).cell 0).trans rfl, ((hbk2.below hb' hbk2.lt).cell 1).trans rfl, ((bl hb2 hb').cell (p := ⟨g1, 0, none⟩) hg1).trans (hp1 0 _ rfl), (hb'.cell (p := ⟨g2, 0, none⟩) hg2).trans (hp2 0 _ rfl)⟩)
  clear hbk hbw hW0 hb1 hb2 hb02 hbw2 hbk2 ho1 ho2 hp1 hp2
  go_wp2_with fail
  (refine (HH.out _).mono ?_); rintro e w4 ⟨rfl, rfl⟩
  go_upto_region 8 with fail
  refine wp_region_held_drew (S := (fun W' => Below w.heap.size w W' ∧ Below w2.heap.size w2 W' ∧ W'.cell? ⟨w.heap.size, 0, none⟩ = some (.func (.func 80) #[] #[]) ∧ W'.cell? ⟨w.heap.size, 1, none⟩ = some (.func (.func 81) #[] #[]) ∧ W'.cell? ⟨g1, 0, none⟩ = some (.string (str a)) ∧ W'.cell? ⟨g2, 0, none⟩ = some (.string (str c)))) (by kernel_rfl) ?ss91 (fun hHeld => ?rr91)
  case ss91 => (try dsimp only); exact HK.out _ (Below.refl _ _).drew
  refine rgt 0 62 rfl rfl hHeld ?_
  try simp only [Act.put, rg1, rg2, rg3]
  refine rgt 1 63 rfl rfl hHeld ?_
  try simp only [Act.put, rg1, rg2, rg3]
  refine rgt 2 64 rfl rfl hHeld ?_
  try simp only [Act.put, rg1, rg2, rg3]
  refine rgt 3 65 rfl rfl hHeld ?_
  try simp only [Act.put, rg1, rg2, rg3]
  refine rgt 4 66 rfl rfl hHeld ?_
  try simp only [Act.put, rg1, rg2, rg3]
  refine rgt 5 67 rfl rfl hHeld ?_
  try simp only [Act.put, rg1, rg2, rg3]
  refine rgt 6 68 rfl rfl hHeld ?_
  try simp only [Act.put, rg1, rg2, rg3]
  refine rgt 7 69 rfl rfl hHeld ?_
  try simp only [Act.put, rg1, rg2, rg3]
  refine rgc 8 (some 70) rfl (fun K hK => ?_)
  go_simp
  ((refine (H1.out _).mono ?_); rintro e w6 ⟨rfl, hb6⟩)
  refine hK.out _ _ ?ss100 (fun hHeld2 => ?rr100)
  case ss100 => (try dsimp only); exact HK.out _ (bl hHeld.2.1 hb6)
  clear hK K
  clear hHeld
  have hHeld := hHeld2
  clear hHeld2
  try simp only [Act.put, rg1, rg2, rg3]
  refine rgt 9 6 rfl rfl hHeld ?_
  try simp only [Act.put, rg1, rg2, rg3]
  refine wpAnyH_done (by kernel_rfl) ?_ _
  obtain ⟨hB, _⟩ := hHeld
  have HB2 := Lib.hid hB
  clear hB
  go_wp2_with fail
  go_ret
  exact ⟨rfl, HB2.out⟩

set_option maxRecDepth 100000 in
set_option maxHeartbeats 4000000 in
theorem parts_120tp (a c : Ty) (w : World) (h1 : AskQ 80 (str a) (str c) true) (q : Bool) (h2 : AskQ 81 (str c) (str a) q) (hS : (Ty.un 120 a).ok) (hT : (Ty.un 120 c).ok) (hS64 : (Ty.un 120 a).code.length ≤ 64) (hT64 : (Ty.un 120 c).code.length ≤ 64) :
    Calls Tryz.prog 95 #[.string (str (Ty.un 120 a)), .string (str (Ty.un 120 c)), .agg #[fv 80, fv 81]] w fun e w' => e = .returned (.bool q) ∧ Below w.heap.size w w' := by
  have hP1 := fun W => Parts_yes (Ty.un 120 a) W hS hS64
  have hP2 := fun W => Parts_yes (Ty.un 120 c) W hT hT64
  have hH := fun W => Head_yes (Ty.un 120 a) W hS hS64
  rw [show ((Ty.un 120 a).head.toNat : Int) = 120 from rfl] at hH
  unfold PartsR at hP1 hP2
  simp only [Ty.kids] at hP1 hP2
  generalize str (Ty.un 120 a) = s at *
  generalize str (Ty.un 120 c) = t at *
  have H1 := Lib.hid h1
  have HT := Lib.hid turned_any
  have HP1 := Lib.hid hP1
  have HP2 := Lib.hid hP2
  have HH := Lib.hid hH
  have H2 := Lib.hid h2
  clear h1 hP1 hP2 hH h2
  unfold fv
  unfold fv at HT
  go_enter Tryz.func95, Tryz.ntmps95
  have hfl : ∀ wq, (Instr.field 140 (.agg #[.func (.func 81) #[] #[], .func (.func 80) #[] #[]]) 0).run Tryz.prog wq = .ok (.func (.func 81) #[] #[]) wq := fun wq => by kernel_rfl
  go_wp2_with fail
  (refine (HP1.out _).mono ?_); rintro e w1 ⟨V1, rfl, ho1, hb1⟩
  obtain ⟨g1, c1, rfl, hc1, hg1, hp1⟩ := parts_row ho1 (by simp)
  go_wp2_with fail
  (refine (HP2.out _).mono ?_); rintro e w2 ⟨V2, rfl, ho2, hb2⟩
  obtain ⟨g2, c2, rfl, hc2, hg2, hp2⟩ := parts_row ho2 (by simp)
  simp only [List.length_cons, List.length_nil, Nat.zero_add] at hc1 hc2
  obtain ⟨W0, hW0⟩ : ∃ W0, w.alloc (.cells #[.func (.func 80) #[] #[], .func (.func 81) #[] #[]] 140) = W0 := ⟨_, rfl⟩
  have hbk : Blk W0 w.heap.size 140 #[.func (.func 80) #[] #[], .func (.func 81) #[] #[]] := by rw [← hW0]; exact Blk.new _ _ _
  have hbw : Below w.heap.size w W0 := by rw [← hW0]; exact bal b0 _
  rw [hW0] at hb1
  have hb02 : Below W0.heap.size W0 w2 := bl hb1 hb2
  have hbw2 : Below w.heap.size w w2 := bl hbw hb02
  have hbk2 := hbk.below hb02 hbk.lt
  have HK := Lib.hid (show ∀ W', Below w2.heap.size w2 W' → (Below w.heap.size w W' ∧ Below w2.heap.size w2 W' ∧ W'.cell? ⟨w.heap.size, 0, none⟩ = some (.func (.func 80) #[] #[]) ∧ W'.cell? ⟨w.heap.size, 1, none⟩ = some (.func (.func 81) #[] #[]) ∧ W'.cell? ⟨g1, 0, none⟩ = some (.string (str a)) ∧ W'.cell? ⟨g2, 0, none⟩ = some (.string (str c))) from fun W' hb' => ⟨bl hbw2 hb', hb', ((hbk2.below hb' hbk2.lt).cell 0).trans rfl, ((hbk2.below hb' hbk2.lt).cell 1).trans rfl, ((bl hb2 hb').cell (p := ⟨g1, 0, none⟩) hg1).trans (hp1 0 _ rfl), (hb'.cell (p := ⟨g2, 0, none⟩) hg2).trans (hp2 0 _ rfl)⟩)
  clear hbk hbw hW0 hb1 hb2 hb02 hbw2 hbk2 ho1 ho2 hp1 hp2
  go_wp2_with fail
  (refine (HH.out _).mono ?_); rintro e w4 ⟨rfl, rfl⟩
  go_upto_region 10 with fail
  refine wp_region_held_drew (S := (fun W' => Below w.heap.size w W' ∧ Below w2.heap.size w2 W' ∧ W'.cell? ⟨w.heap.size, 0, none⟩ = some (.func (.func 80) #[] #[]) ∧ W'.cell? ⟨w.heap.size, 1, none⟩ = some (.func (.func 81) #[] #[]) ∧ W'.cell? ⟨g1, 0, none⟩ = some (.string (str a)) ∧ W'.cell? ⟨g2, 0, none⟩ = some (.string (str c)))) (by kernel_rfl) ?ss102 (fun hHeld => ?rr102)
  case ss102 => (try dsimp only); exact HK.out _ (Below.refl _ _).drew
  refine rgt 0 73 rfl rfl hHeld ?_
  try simp only [Act.put, rg1, rg2, rg3]
  refine rgt 1 74 rfl rfl hHeld ?_
  try simp only [Act.put, rg1, rg2, rg3]
  refine rgt 2 75 rfl rfl hHeld ?_
  try simp only [Act.put, rg1, rg2, rg3]
  refine rgt 3 76 rfl rfl hHeld ?_
  try simp only [Act.put, rg1, rg2, rg3]
  refine rgt 4 77 rfl rfl hHeld ?_
  try simp only [Act.put, rg1, rg2, rg3]
  refine rgt 5 78 rfl rfl hHeld ?_
  try simp only [Act.put, rg1, rg2, rg3]
  refine rgt 6 79 rfl rfl hHeld ?_
  try simp only [Act.put, rg1, rg2, rg3]
  refine rgt 7 80 rfl rfl hHeld ?_
  try simp only [Act.put, rg1, rg2, rg3]
  refine rgc 8 (some 81) rfl (fun K hK => ?_)
  go_simp
  ((refine (H1.out _).mono ?_); rintro e w6 ⟨rfl, hb6⟩)
  refine hK.out _ _ ?ss111 (fun hHeld2 => ?rr111)
  case ss111 => (try dsimp only); exact HK.out _ (bl hHeld.2.1 hb6)
  clear hK K
  clear hHeld
  have hHeld := hHeld2
  clear hHeld2
  try simp only [Act.put, rg1, rg2, rg3]
  refine rgt 9 82 rfl rfl hHeld ?_
  try simp only [Act.put, rg1, rg2, rg3]
  refine rgt 10 83 rfl rfl hHeld ?_
  try simp only [Act.put, rg1, rg2, rg3]
  refine rgt 13 86 rfl rfl hHeld ?_
  try simp only [Act.put, rg1, rg2, rg3]
  refine rgt 14 87 rfl rfl hHeld ?_
  try simp only [Act.put, rg1, rg2, rg3]
  refine rgt 15 88 rfl rfl hHeld ?_
  try simp only [Act.put, rg1, rg2, rg3]
  refine rgt 16 89 rfl rfl hHeld ?_
  try simp only [Act.put, rg1, rg2, rg3]
  refine rgt 17 90 rfl rfl hHeld ?_
  try simp only [Act.put, rg1, rg2, rg3]
  refine rgt 18 91 rfl rfl hHeld ?_
  try simp only [Act.put, rg1, rg2, rg3]
  refine rgc 11 (some 84) rfl (fun K hK => ?_)
  go_simp
  ((refine (HT.out _ _ _).mono ?_); rintro e w6 ⟨rfl, hb6⟩)
  refine hK.out _ _ ?ss120 (fun hHeld2 => ?rr120)
  case ss120 => (try dsimp only); exact HK.out _ (bl hHeld.2.1 hb6)
  clear hK K
  clear hHeld
  have hHeld := hHeld2
  clear hHeld2
  try simp only [Act.put, rg1, rg2, rg3]
  refine rgt 12 85 rfl rfl hHeld ?_
  try simp only [Act.put, rg1, rg2, rg3]
  refine rgc 19 (some 92) rfl (fun K hK => ?_)
  go_simp
  ((refine (H2.out _).mono ?_); rintro e w6 ⟨rfl, hb6⟩)
  refine hK.out _ _ ?ss122 (fun hHeld2 => ?rr122)
  case ss122 => (try dsimp only); exact HK.out _ (bl hHeld.2.1 hb6)
  clear hK K
  clear hHeld
  have hHeld := hHeld2
  clear hHeld2
  try simp only [Act.put, rg1, rg2, rg3]
  refine rgt 20 93 rfl rfl hHeld ?_
  try simp only [Act.put, rg1, rg2, rg3]
  refine rgt 21 6 rfl rfl hHeld ?_
  try simp only [Act.put, rg1, rg2, rg3]
  refine wpAnyH_done (by kernel_rfl) ?_ _
  obtain ⟨hB, _⟩ := hHeld
  have HB2 := Lib.hid hB
  clear hB
  go_wp2_with fail
  go_ret
  exact ⟨rfl, HB2.out⟩

set_option maxRecDepth 100000 in
set_option maxHeartbeats 4000000 in
theorem parts_120fp (a c : Ty) (w : World) (h1 : AskQ 80 (str a) (str c) false) (hS : (Ty.un 120 a).ok) (hT : (Ty.un 120 c).ok) (hS64 : (Ty.un 120 a).code.length ≤ 64) (hT64 : (Ty.un 120 c).code.length ≤ 64) :
    Calls Tryz.prog 95 #[.string (str (Ty.un 120 a)), .string (str (Ty.un 120 c)), .agg #[fv 80, fv 81]] w fun e w' => e = .returned (.bool false) ∧ Below w.heap.size w w' := by
  have hP1 := fun W => Parts_yes (Ty.un 120 a) W hS hS64
  have hP2 := fun W => Parts_yes (Ty.un 120 c) W hT hT64
  have hH := fun W => Head_yes (Ty.un 120 a) W hS hS64
  rw [show ((Ty.un 120 a).head.toNat : Int) = 120 from rfl] at hH
  unfold PartsR at hP1 hP2
  simp only [Ty.kids] at hP1 hP2
  generalize str (Ty.un 120 a) = s at *
  generalize str (Ty.un 120 c) = t at *
  have H1 := Lib.hid h1
  have HT := Lib.hid turned_any
  have HP1 := Lib.hid hP1
  have HP2 := Lib.hid hP2
  have HH := Lib.hid hH
  clear h1 hP1 hP2 hH
  unfold fv
  unfold fv at HT
  go_enter Tryz.func95, Tryz.ntmps95
  have hfl : ∀ wq, (Instr.field 140 (.agg #[.func (.func 81) #[] #[], .func (.func 80) #[] #[]]) 0).run Tryz.prog wq = .ok (.func (.func 81) #[] #[]) wq := fun wq => by kernel_rfl
  go_wp2_with fail
  (refine (HP1.out _).mono ?_); rintro e w1 ⟨V1, rfl, ho1, hb1⟩
  obtain ⟨g1, c1, rfl, hc1, hg1, hp1⟩ := parts_row ho1 (by simp)
  go_wp2_with fail
  (refine (HP2.out _).mono ?_); rintro e w2 ⟨V2, rfl, ho2, hb2⟩
  obtain ⟨g2, c2, rfl, hc2, hg2, hp2⟩ := parts_row ho2 (by simp)
  simp only [List.length_cons, List.length_nil, Nat.zero_add] at hc1 hc2
  obtain ⟨W0, hW0⟩ : ∃ W0, w.alloc (.cells #[.func (.func 80) #[] #[], .func (.func 81) #[] #[]] 140) = W0 := ⟨_, rfl⟩
  have hbk : Blk W0 w.heap.size 140 #[.func (.func 80) #[] #[], .func (.func 81) #[] #[]] := by rw [← hW0]; exact Blk.new _ _ _
  have hbw : Below w.heap.size w W0 := by rw [← hW0]; exact bal b0 _
  rw [hW0] at hb1
  have hb02 : Below W0.heap.size W0 w2 := bl hb1 hb2
  have hbw2 : Below w.heap.size w w2 := bl hbw hb02
  have hbk2 := hbk.below hb02 hbk.lt
  have HK := Lib.hid (show ∀ W', Below w2.heap.size w2 W' → (Below w.heap.size w W' ∧ Below w2.heap.size w2 W' ∧ W'.cell? ⟨w.heap.size, 0, none⟩ = some (.func (.func 80) #[] #[]) ∧ W'.cell? ⟨w.heap.size, 1, none⟩ = some (.func (.func 81) #[] #[]) ∧ W'.cell? ⟨g1, 0, none⟩ = some (.string (str a)) ∧ W'.cell? ⟨g2, 0, none⟩ = some (.string (str c))) from fun W' hb' => ⟨bl hbw2 hb', hb', ((hbk2.below hb' hbk2.lt).cell 0).trans rfl, ((hbk2.below hb' hbk2.lt).cell 1).trans rfl, ((bl hb2 hb').cell (p := ⟨g1, 0, none⟩) hg1).trans (hp1 0 _ rfl), (hb'.cell (p := ⟨g2, 0, none⟩) hg2).trans (hp2 0 _ rfl)⟩)
  clear hbk hbw hW0 hb1 hb2 hb02 hbw2 hbk2 ho1 ho2 hp1 hp2
  go_wp2_with fail
  (refine (HH.out _).mono ?_); rintro e w4 ⟨rfl, rfl⟩
  go_upto_region 10 with fail
  refine wp_region_held_drew (S := (fun W' => Below w.heap.size w W' ∧ Below w2.heap.size w2 W' ∧ W'.cell? ⟨w.heap.size, 0, none⟩ = some (.func (.func 80) #[] #[]) ∧ W'.cell? ⟨w.heap.size, 1, none⟩ = some (.func (.func 81) #[] #[]) ∧ W'.cell? ⟨g1, 0, none⟩ = some (.string (str a)) ∧ W'.cell? ⟨g2, 0, none⟩ = some (.string (str c)))) (by kernel_rfl) ?ss125 (fun hHeld => ?rr125)
  case ss125 => (try dsimp only); exact HK.out _ (Below.refl _ _).drew
  refine rgt 0 73 rfl rfl hHeld ?_
  try simp only [Act.put, rg1, rg2, rg3]
  refine rgt 1 74 rfl rfl hHeld ?_
  try simp only [Act.put, rg1, rg2, rg3]
  refine rgt 2 75 rfl rfl hHeld ?_
  try simp only [Act.put, rg1, rg2, rg3]
  refine rgt 3 76 rfl rfl hHeld ?_
  try simp only [Act.put, rg1, rg2, rg3]
  refine rgt 4 77 rfl rfl hHeld ?_
  try simp only [Act.put, rg1, rg2, rg3]
  refine rgt 5 78 rfl rfl hHeld ?_
  try simp only [Act.put, rg1, rg2, rg3]
  refine rgt 6 79 rfl rfl hHeld ?_
  try simp only [Act.put, rg1, rg2, rg3]
  refine rgt 7 80 rfl rfl hHeld ?_
  try simp only [Act.put, rg1, rg2, rg3]
  refine rgc 8 (some 81) rfl (fun K hK => ?_)
  go_simp
  ((refine (H1.out _).mono ?_); rintro e w6 ⟨rfl, hb6⟩)
  refine hK.out _ _ ?ss134 (fun hHeld2 => ?rr134)
  case ss134 => (try dsimp only); exact HK.out _ (bl hHeld.2.1 hb6)
  clear hK K
  clear hHeld
  have hHeld := hHeld2
  clear hHeld2
  try simp only [Act.put, rg1, rg2, rg3]
  refine rgt 9 82 rfl rfl hHeld ?_
  try simp only [Act.put, rg1, rg2, rg3]
  refine rgn 10 83 rfl rfl hHeld ?_
  try simp only [Act.put, rg1, rg2, rg3]
  refine rgn 11 84 rfl rfl hHeld ?_
  try simp only [Act.put, rg1, rg2, rg3]
  refine rgn 12 85 rfl rfl hHeld ?_
  try simp only [Act.put, rg1, rg2, rg3]
  refine rgn 13 86 rfl rfl hHeld ?_
  try simp only [Act.put, rg1, rg2, rg3]
  refine rgn 14 87 rfl rfl hHeld ?_
  try simp only [Act.put, rg1, rg2, rg3]
  refine rgn 15 88 rfl rfl hHeld ?_
  try simp only [Act.put, rg1, rg2, rg3]
  refine rgn 16 89 rfl rfl hHeld ?_
  try simp only [Act.put, rg1, rg2, rg3]
  refine rgn 17 90 rfl rfl hHeld ?_
  try simp only [Act.put, rg1, rg2, rg3]
  refine rgn 18 91 rfl rfl hHeld ?_
  try simp only [Act.put, rg1, rg2, rg3]
  refine rgn 19 92 rfl rfl hHeld ?_
  try simp only [Act.put, rg1, rg2, rg3]
  refine rgt 20 93 rfl rfl hHeld ?_
  try simp only [Act.put, rg1, rg2, rg3]
  refine rgt 21 6 rfl rfl hHeld ?_
  try simp only [Act.put, rg1, rg2, rg3]
  refine wpAnyH_done (by kernel_rfl) ?_ _
  obtain ⟨hB, _⟩ := hHeld
  have HB2 := Lib.hid hB
  clear hB
  go_wp2_with fail
  go_ret
  exact ⟨rfl, HB2.out⟩

set_option maxRecDepth 100000 in
set_option maxHeartbeats 4000000 in
theorem parts_62tm (a b c d : Ty) (w : World) (h1 : AskQ 80 (str c) (str a) true) (q : Bool) (h2 : AskQ 81 (str b) (str d) q) (hS : (Ty.bin 62 a b).ok) (hT : (Ty.bin 62 c d).ok) (hS64 : (Ty.bin 62 a b).code.length ≤ 64) (hT64 : (Ty.bin 62 c d).code.length ≤ 64) :
    Calls Tryz.prog 95 #[.string (str (Ty.bin 62 a b)), .string (str (Ty.bin 62 c d)), .agg #[fv 81, fv 80]] w fun e w' => e = .returned (.bool q) ∧ Below w.heap.size w w' := by
  have hP1 := fun W => Parts_yes (Ty.bin 62 a b) W hS hS64
  have hP2 := fun W => Parts_yes (Ty.bin 62 c d) W hT hT64
  have hH := fun W => Head_yes (Ty.bin 62 a b) W hS hS64
  rw [show ((Ty.bin 62 a b).head.toNat : Int) = 62 from rfl] at hH
  unfold PartsR at hP1 hP2
  simp only [Ty.kids] at hP1 hP2
  generalize str (Ty.bin 62 a b) = s at *
  generalize str (Ty.bin 62 c d) = t at *
  have H1 := Lib.hid h1
  have HT := Lib.hid turned_any
  have HP1 := Lib.hid hP1
  have HP2 := Lib.hid hP2
  have HH := Lib.hid hH
  have H2 := Lib.hid h2
  clear h1 hP1 hP2 hH h2
  unfold fv
  unfold fv at HT
  go_enter Tryz.func95, Tryz.ntmps95
  have hfl : ∀ wq, (Instr.field 140 (.agg #[.func (.func 80) #[] #[], .func (.func 81) #[] #[]]) 0).run Tryz.prog wq = .ok (.func (.func 80) #[] #[]) wq := fun wq => by kernel_rfl
  go_wp2_with fail
  (refine (HP1.out _).mono ?_); rintro e w1 ⟨V1, rfl, ho1, hb1⟩
  obtain ⟨g1, c1, rfl, hc1, hg1, hp1⟩ := parts_row ho1 (by simp)
  go_wp2_with fail
  (refine (HP2.out _).mono ?_); rintro e w2 ⟨V2, rfl, ho2, hb2⟩
  obtain ⟨g2, c2, rfl, hc2, hg2, hp2⟩ := parts_row ho2 (by simp)
  simp only [List.length_cons, List.length_nil, Nat.zero_add] at hc1 hc2
  obtain ⟨W0, hW0⟩ : ∃ W0, w.alloc (.cells #[.func (.func 81) #[] #[], .func (.func 80) #[] #[]] 140) = W0 := ⟨_, rfl⟩
  have hbk : Blk W0 w.heap.size 140 #[.func (.func 81) #[] #[], .func (.func 80) #[] #[]] := by rw [← hW0]; exact Blk.new _ _ _
  have hbw : Below w.heap.size w W0 := by rw [← hW0]; exact bal b0 _
  rw [hW0] at hb1
  have hb02 : Below W0.heap.size W0 w2 := bl hb1 hb2
  have hbw2 : Below w.heap.size w w2 := bl hbw hb02
  have hbk2 := hbk.below hb02 hbk.lt
  have HK := Lib.hid (show ∀ W', Below w2.heap.size w2 W' → (Below w.heap.size w W' ∧ Below w2.heap.size w2 W' ∧ W'.cell? ⟨w.heap.size, 0, none⟩ = some (.func (.func 81) #[] #[]) ∧ W'.cell? ⟨w.heap.size, 1, none⟩ = some (.func (.func 80) #[] #[]) ∧ W'.cell? ⟨g1, 0, none⟩ = some (.string (str a)) ∧ W'.cell? ⟨g1, 1, none⟩ = some (.string (str b)) ∧ W'.cell? ⟨g2, 0, none⟩ = some (.string (str c)) ∧ W'.cell? ⟨g2, 1, none⟩ = some (.string (str d))) from fun W' hb' => ⟨bl hbw2 hb', hb', ((hbk2.below hb' hbk2.lt).cell 0).trans rfl, ((hbk2.below hb' hbk2.lt).cell 1).trans rfl, ((bl hb2 hb').cell (p := ⟨g1, 0, none⟩) hg1).trans (hp1 0 _ rfl), ((bl hb2 hb').cell (p := ⟨g1, 1, none⟩) hg1).trans (hp1 1 _ rfl), (hb'.cell (p := ⟨g2, 0, none⟩) hg2).trans (hp2 0 _ rfl), (hb'.cell (p := ⟨g2, 1, none⟩) hg2).trans (hp2 1 _ rfl)⟩)
  clear hbk hbw hW0 hb1 hb2 hb02 hbw2 hbk2 ho1 ho2 hp1 hp2
  go_wp2_with fail
  (refine (HH.out _).mono ?_); rintro e w4 ⟨rfl, rfl⟩
  go_upto_region 4 with fail
  refine wp_region_held_drew (S := (fun W' => Below w.heap.size w W' ∧ Below w2.heap.size w2 W' ∧ W'.cell? ⟨w.heap.size, 0, none⟩ = some (.func (.func 81) #[] #[]) ∧ W'.cell? ⟨w.heap.size, 1, none⟩ = some (.func (.func 80) #[] #[]) ∧ W'.cell? ⟨g1, 0, none⟩ = some (.string (str a)) ∧ W'.cell? ⟨g1, 1, none⟩ = some (.string (str b)) ∧ W'.cell? ⟨g2, 0, none⟩ = some (.string (str c)) ∧ W'.cell? ⟨g2, 1, none⟩ = some (.string (str d)))) (by kernel_rfl) ?ss148 (fun hHeld => ?rr148)
  case ss148 => (try dsimp only); exact HK.out _ (Below.refl _ _).drew
  refine rgt 0 17 rfl rfl hHeld ?_
  try simp only [Act.put, rg1, rg2, rg3]
  refine rgt 3 20 rfl rfl hHeld ?_
  try simp only [Act.put, rg1, rg2, rg3]
  refine rgt 4 21 rfl rfl hHeld ?_
  try simp only [Act.put, rg1, rg2, rg3]
  refine rgt 5 22 rfl rfl hHeld ?_
  try simp only [Act.put, rg1, rg2, rg3]
  refine rgt 6 23 rfl rfl hHeld ?_
  try simp only [Act.put, rg1, rg2, rg3]
  refine rgt 7 24 rfl rfl hHeld ?_
  try simp only [Act.put, rg1, rg2, rg3]
  refine rgt 8 25 rfl rfl hHeld ?_
  try simp only [Act.put, rg1, rg2, rg3]
  refine rgc 1 (some 18) rfl (fun K hK => ?_)
  go_simp
  ((refine (HT.out _ _ _).mono ?_); rintro e w6 ⟨rfl, hb6⟩)
  refine hK.out _ _ ?ss156 (fun hHeld2 => ?rr156)
  case ss156 => (try dsimp only); exact HK.out _ (bl hHeld.2.1 hb6)
  clear hK K
  clear hHeld
  have hHeld := hHeld2
  clear hHeld2
  try simp only [Act.put, rg1, rg2, rg3]
  refine rgt 2 19 rfl rfl hHeld ?_
  try simp only [Act.put, rg1, rg2, rg3]
  refine rgc 9 (some 26) rfl (fun K hK => ?_)
  go_simp
  ((refine (H1.out _).mono ?_); rintro e w6 ⟨rfl, hb6⟩)
  refine hK.out _ _ ?ss158 (fun hHeld2 => ?rr158)
  case ss158 => (try dsimp only); exact HK.out _ (bl hHeld.2.1 hb6)
  clear hK K
  clear hHeld
  have hHeld := hHeld2
  clear hHeld2
  try simp only [Act.put, rg1, rg2, rg3]
  refine rgt 10 27 rfl rfl hHeld ?_
  try simp only [Act.put, rg1, rg2, rg3]
  refine rgt 11 28 rfl rfl hHeld ?_
  try simp only [Act.put, rg1, rg2, rg3]
  refine rgt 12 29 rfl rfl hHeld ?_
  try simp only [Act.put, rg1, rg2, rg3]
  refine rgt 13 30 rfl rfl hHeld ?_
  try simp only [Act.put, rg1, rg2, rg3]
  refine rgt 14 31 rfl rfl hHeld ?_
  try simp only [Act.put, rg1, rg2, rg3]
  refine rgt 15 32 rfl rfl hHeld ?_
  try simp only [Act.put, rg1, rg2, rg3]
  refine rgt 16 33 rfl rfl hHeld ?_
  try simp only [Act.put, rg1, rg2, rg3]
  refine rgt 17 34 rfl rfl hHeld ?_
  try simp only [Act.put, rg1, rg2, rg3]
  refine rgt 18 35 rfl rfl hHeld ?_
  try simp only [Act.put, rg1, rg2, rg3]
  refine rgc 19 (some 36) rfl (fun K hK => ?_)
  go_simp
  ((refine (H2.out _).mono ?_); rintro e w6 ⟨rfl, hb6⟩)
  refine hK.out _ _ ?ss168 (fun hHeld2 => ?rr168)
  case ss168 => (try dsimp only); exact HK.out _ (bl hHeld.2.1 hb6)
  clear hK K
  clear hHeld
  have hHeld := hHeld2
  clear hHeld2
  try simp only [Act.put, rg1, rg2, rg3]
  refine rgt 20 37 rfl rfl hHeld ?_
  try simp only [Act.put, rg1, rg2, rg3]
  refine rgt 21 6 rfl rfl hHeld ?_
  try simp only [Act.put, rg1, rg2, rg3]
  refine wpAnyH_done (by kernel_rfl) ?_ _
  obtain ⟨hB, _⟩ := hHeld
  have HB2 := Lib.hid hB
  clear hB
  go_wp2_with fail
  go_ret
  exact ⟨rfl, HB2.out⟩

set_option maxRecDepth 100000 in
set_option maxHeartbeats 4000000 in
theorem parts_62fm (a b c d : Ty) (w : World) (h1 : AskQ 80 (str c) (str a) false) (hS : (Ty.bin 62 a b).ok) (hT : (Ty.bin 62 c d).ok) (hS64 : (Ty.bin 62 a b).code.length ≤ 64) (hT64 : (Ty.bin 62 c d).code.length ≤ 64) :
    Calls Tryz.prog 95 #[.string (str (Ty.bin 62 a b)), .string (str (Ty.bin 62 c d)), .agg #[fv 81, fv 80]] w fun e w' => e = .returned (.bool false) ∧ Below w.heap.size w w' := by
  have hP1 := fun W => Parts_yes (Ty.bin 62 a b) W hS hS64
  have hP2 := fun W => Parts_yes (Ty.bin 62 c d) W hT hT64
  have hH := fun W => Head_yes (Ty.bin 62 a b) W hS hS64
  rw [show ((Ty.bin 62 a b).head.toNat : Int) = 62 from rfl] at hH
  unfold PartsR at hP1 hP2
  simp only [Ty.kids] at hP1 hP2
  generalize str (Ty.bin 62 a b) = s at *
  generalize str (Ty.bin 62 c d) = t at *
  have H1 := Lib.hid h1
  have HT := Lib.hid turned_any
  have HP1 := Lib.hid hP1
  have HP2 := Lib.hid hP2
  have HH := Lib.hid hH
  clear h1 hP1 hP2 hH
  unfold fv
  unfold fv at HT
  go_enter Tryz.func95, Tryz.ntmps95
  have hfl : ∀ wq, (Instr.field 140 (.agg #[.func (.func 80) #[] #[], .func (.func 81) #[] #[]]) 0).run Tryz.prog wq = .ok (.func (.func 80) #[] #[]) wq := fun wq => by kernel_rfl
  go_wp2_with fail
  (refine (HP1.out _).mono ?_); rintro e w1 ⟨V1, rfl, ho1, hb1⟩
  obtain ⟨g1, c1, rfl, hc1, hg1, hp1⟩ := parts_row ho1 (by simp)
  go_wp2_with fail
  (refine (HP2.out _).mono ?_); rintro e w2 ⟨V2, rfl, ho2, hb2⟩
  obtain ⟨g2, c2, rfl, hc2, hg2, hp2⟩ := parts_row ho2 (by simp)
  simp only [List.length_cons, List.length_nil, Nat.zero_add] at hc1 hc2
  obtain ⟨W0, hW0⟩ : ∃ W0, w.alloc (.cells #[.func (.func 81) #[] #[], .func (.func 80) #[] #[]] 140) = W0 := ⟨_, rfl⟩
  have hbk : Blk W0 w.heap.size 140 #[.func (.func 81) #[] #[], .func (.func 80) #[] #[]] := by rw [← hW0]; exact Blk.new _ _ _
  have hbw : Below w.heap.size w W0 := by rw [← hW0]; exact bal b0 _
  rw [hW0] at hb1
  have hb02 : Below W0.heap.size W0 w2 := bl hb1 hb2
  have hbw2 : Below w.heap.size w w2 := bl hbw hb02
  have hbk2 := hbk.below hb02 hbk.lt
  have HK := Lib.hid (show ∀ W', Below w2.heap.size w2 W' → (Below w.heap.size w W' ∧ Below w2.heap.size w2 W' ∧ W'.cell? ⟨w.heap.size, 0, none⟩ = some (.func (.func 81) #[] #[]) ∧ W'.cell? ⟨w.heap.size, 1, none⟩ = some (.func (.func 80) #[] #[]) ∧ W'.cell? ⟨g1, 0, none⟩ = some (.string (str a)) ∧ W'.cell? ⟨g1, 1, none⟩ = some (.string (str b)) ∧ W'.cell? ⟨g2, 0, none⟩ = some (.string (str c)) ∧ W'.cell? ⟨g2, 1, none⟩ = some (.string (str d))) from fun W' hb' => ⟨bl hbw2 hb', hb', ((hbk2.below hb' hbk2.lt).cell 0).trans rfl, ((hbk2.below hb' hbk2.lt).cell 1).trans rfl, ((bl hb2 hb').cell (p := ⟨g1, 0, none⟩) hg1).trans (hp1 0 _ rfl), ((bl hb2 hb').cell (p := ⟨g1, 1, none⟩) hg1).trans (hp1 1 _ rfl), (hb'.cell (p := ⟨g2, 0, none⟩) hg2).trans (hp2 0 _ rfl), (hb'.cell (p := ⟨g2, 1, none⟩) hg2).trans (hp2 1 _ rfl)⟩)
  clear hbk hbw hW0 hb1 hb2 hb02 hbw2 hbk2 ho1 ho2 hp1 hp2
  go_wp2_with fail
  (refine (HH.out _).mono ?_); rintro e w4 ⟨rfl, rfl⟩
  go_upto_region 4 with fail
  refine wp_region_held_drew (S := (fun W' => Below w.heap.size w W' ∧ Below w2.heap.size w2 W' ∧ W'.cell? ⟨w.heap.size, 0, none⟩ = some (.func (.func 81) #[] #[]) ∧ W'.cell? ⟨w.heap.size, 1, none⟩ = some (.func (.func 80) #[] #[]) ∧ W'.cell? ⟨g1, 0, none⟩ = some (.string (str a)) ∧ W'.cell? ⟨g1, 1, none⟩ = some (.string (str b)) ∧ W'.cell? ⟨g2, 0, none⟩ = some (.string (str c)) ∧ W'.cell? ⟨g2, 1, none⟩ = some (.string (str d)))) (by kernel_rfl) ?ss171 (fun hHeld => ?rr171)
  case ss171 => (try dsimp only); exact HK.out _ (Below.refl _ _).drew
  refine rgt 0 17 rfl rfl hHeld ?_
  try simp only [Act.put, rg1, rg2, rg3]
  refine rgt 3 20 rfl rfl hHeld ?_
  try simp only [Act.put, rg1, rg2, rg3]
  refine rgt 4 21 rfl rfl hHeld ?_
  try simp only [Act.put, rg1, rg2, rg3]
  refine rgt 5 22 rfl rfl hHeld ?_
  try simp only [Act.put, rg1, rg2, rg3]
  refine rgt 6 23 rfl rfl hHeld ?_
  try simp only [Act.put, rg1, rg2, rg3]
  refine rgt 7 24 rfl rfl hHeld ?_
  try simp only [Act.put, rg1, rg2, rg3]
  refine rgt 8 25 rfl rfl hHeld ?_
  try simp only [Act.put, rg1, rg2, rg3]
  refine rgc 1 (some 18) rfl (fun K hK => ?_)
  go_simp
  ((refine (HT.out _ _ _).mono ?_); rintro e w6 ⟨rfl, hb6⟩)
  refine hK.out _ _ ?ss179 (fun hHeld2 => ?rr179)
  case ss179 => (try dsimp only); exact HK.out _ (bl hHeld.2.1 hb6)
  clear hK K
  clear hHeld
  have hHeld := hHeld2
  clear hHeld2
  try simp only [Act.put, rg1, rg2, rg3]
  refine rgt 2 19 rfl rfl hHeld ?_
  try simp only [Act.put, rg1, rg2, rg3]
  refine rgc 9 (some 26) rfl (fun K hK => ?_)
  go_simp
  ((refine (H1.out _).mono ?_); rintro e w6 ⟨rfl, hb6⟩)
  refine hK.out _ _ ?ss181 (fun hHeld2 => ?rr181)
  case ss181 => (try dsimp only); exact HK.out _ (bl hHeld.2.1 hb6)
  clear hK K
  clear hHeld
  have hHeld := hHeld2
  clear hHeld2
  try simp only [Act.put, rg1, rg2, rg3]
  refine rgt 10 27 rfl rfl hHeld ?_
  try simp only [Act.put, rg1, rg2, rg3]
  refine rgn 11 28 rfl rfl hHeld ?_
  try simp only [Act.put, rg1, rg2, rg3]
  refine rgn 12 29 rfl rfl hHeld ?_
  try simp only [Act.put, rg1, rg2, rg3]
  refine rgn 13 30 rfl rfl hHeld ?_
  try simp only [Act.put, rg1, rg2, rg3]
  refine rgn 14 31 rfl rfl hHeld ?_
  try simp only [Act.put, rg1, rg2, rg3]
  refine rgn 15 32 rfl rfl hHeld ?_
  try simp only [Act.put, rg1, rg2, rg3]
  refine rgn 16 33 rfl rfl hHeld ?_
  try simp only [Act.put, rg1, rg2, rg3]
  refine rgn 17 34 rfl rfl hHeld ?_
  try simp only [Act.put, rg1, rg2, rg3]
  refine rgn 18 35 rfl rfl hHeld ?_
  try simp only [Act.put, rg1, rg2, rg3]
  refine rgn 19 36 rfl rfl hHeld ?_
  try simp only [Act.put, rg1, rg2, rg3]
  refine rgt 20 37 rfl rfl hHeld ?_
  try simp only [Act.put, rg1, rg2, rg3]
  refine rgt 21 6 rfl rfl hHeld ?_
  try simp only [Act.put, rg1, rg2, rg3]
  refine wpAnyH_done (by kernel_rfl) ?_ _
  obtain ⟨hB, _⟩ := hHeld
  have HB2 := Lib.hid hB
  clear hB
  go_wp2_with fail
  go_ret
  exact ⟨rfl, HB2.out⟩

set_option maxRecDepth 100000 in
set_option maxHeartbeats 4000000 in
theorem parts_44tm (a b c d : Ty) (w : World) (h1 : AskQ 81 (str a) (str c) true) (q : Bool) (h2 : AskQ 81 (str b) (str d) q) (hS : (Ty.bin 44 a b).ok) (hT : (Ty.bin 44 c d).ok) (hS64 : (Ty.bin 44 a b).code.length ≤ 64) (hT64 : (Ty.bin 44 c d).code.length ≤ 64) :
    Calls Tryz.prog 95 #[.string (str (Ty.bin 44 a b)), .string (str (Ty.bin 44 c d)), .agg #[fv 81, fv 80]] w fun e w' => e = .returned (.bool q) ∧ Below w.heap.size w w' := by
  have hP1 := fun W => Parts_yes (Ty.bin 44 a b) W hS hS64
  have hP2 := fun W => Parts_yes (Ty.bin 44 c d) W hT hT64
  have hH := fun W => Head_yes (Ty.bin 44 a b) W hS hS64
  rw [show ((Ty.bin 44 a b).head.toNat : Int) = 44 from rfl] at hH
  unfold PartsR at hP1 hP2
  simp only [Ty.kids] at hP1 hP2
  generalize str (Ty.bin 44 a b) = s at *
  generalize str (Ty.bin 44 c d) = t at *
  have H1 := Lib.hid h1
  have HT := Lib.hid turned_any
  have HP1 := Lib.hid hP1
  have HP2 := Lib.hid hP2
  have HH := Lib.hid hH
  have H2 := Lib.hid h2
  clear h1 hP1 hP2 hH h2
  unfold fv
  unfold fv at HT
  go_enter Tryz.func95, Tryz.ntmps95
  have hfl : ∀ wq, (Instr.field 140 (.agg #[.func (.func 80) #[] #[], .func (.func 81) #[] #[]]) 0).run Tryz.prog wq = .ok (.func (.func 80) #[] #[]) wq := fun wq => by kernel_rfl
  go_wp2_with fail
  (refine (HP1.out _).mono ?_); rintro e w1 ⟨V1, rfl, ho1, hb1⟩
  obtain ⟨g1, c1, rfl, hc1, hg1, hp1⟩ := parts_row ho1 (by simp)
  go_wp2_with fail
  (refine (HP2.out _).mono ?_); rintro e w2 ⟨V2, rfl, ho2, hb2⟩
  obtain ⟨g2, c2, rfl, hc2, hg2, hp2⟩ := parts_row ho2 (by simp)
  simp only [List.length_cons, List.length_nil, Nat.zero_add] at hc1 hc2
  obtain ⟨W0, hW0⟩ : ∃ W0, w.alloc (.cells #[.func (.func 81) #[] #[], .func (.func 80) #[] #[]] 140) = W0 := ⟨_, rfl⟩
  have hbk : Blk W0 w.heap.size 140 #[.func (.func 81) #[] #[], .func (.func 80) #[] #[]] := by rw [← hW0]; exact Blk.new _ _ _
  have hbw : Below w.heap.size w W0 := by rw [← hW0]; exact bal b0 _
  rw [hW0] at hb1
  have hb02 : Below W0.heap.size W0 w2 := bl hb1 hb2
  have hbw2 : Below w.heap.size w w2 := bl hbw hb02
  have hbk2 := hbk.below hb02 hbk.lt
  have HK := Lib.hid (show ∀ W', Below w2.heap.size w2 W' → (Below w.heap.size w W' ∧ Below w2.heap.size w2 W' ∧ W'.cell? ⟨w.heap.size, 0, none⟩ = some (.func (.func 81) #[] #[]) ∧ W'.cell? ⟨w.heap.size, 1, none⟩ = some (.func (.func 80) #[] #[]) ∧ W'.cell? ⟨g1, 0, none⟩ = some (.string (str a)) ∧ W'.cell? ⟨g1, 1, none⟩ = some (.string (str b)) ∧ W'.cell? ⟨g2, 0, none⟩ = some (.string (str c)) ∧ W'.cell? ⟨g2, 1, none⟩ = some (.string (str d))) from fun W' hb' => ⟨bl hbw2 hb', hb', ((hbk2.below hb' hbk2.lt).cell 0).trans rfl, ((hbk2.below hb' hbk2.lt).cell 1).trans rfl, ((bl hb2 hb').cell (p := ⟨g1, 0, none⟩) hg1).trans (hp1 0 _ rfl), ((bl hb2 hb').cell (p := ⟨g1, 1, none⟩) hg1).trans (hp1 1 _ rfl), (hb'.cell (p := ⟨g2, 0, none⟩) hg2).trans (hp2 0 _ rfl), (hb'.cell (p := ⟨g2, 1, none⟩) hg2).trans (hp2 1 _ rfl)⟩)
  clear hbk hbw hW0 hb1 hb2 hb02 hbw2 hbk2 ho1 ho2 hp1 hp2
  go_wp2_with fail
  (refine (HH.out _).mono ?_); rintro e w4 ⟨rfl, rfl⟩
  go_upto_region 6 with fail
  refine wp_region_held_drew (S := (fun W' => Below w.heap.size w W' ∧ Below w2.heap.size w2 W' ∧ W'.cell? ⟨w.heap.size, 0, none⟩ = some (.func (.func 81) #[] #[]) ∧ W'.cell? ⟨w.heap.size, 1, none⟩ = some (.func (.func 80) #[] #[]) ∧ W'.cell? ⟨g1, 0, none⟩ = some (.string (str a)) ∧ W'.cell? ⟨g1, 1, none⟩ = some (.string (str b)) ∧ W'.cell? ⟨g2, 0, none⟩ = some (.string (str c)) ∧ W'.cell? ⟨g2, 1, none⟩ = some (.string (str d)))) (by kernel_rfl) ?ss194 (fun hHeld => ?rr194)
  case ss194 => (try dsimp only); exact HK.out _ (Below.refl _ _).drew
  refine rgt 0 40 rfl rfl hHeld ?_
  try simp only [Act.put, rg1, rg2, rg3]
  refine rgt 1 41 rfl rfl hHeld ?_
  try simp only [Act.put, rg1, rg2, rg3]
  refine rgt 2 42 rfl rfl hHeld ?_
  try simp only [Act.put, rg1, rg2, rg3]
  refine rgt 3 43 rfl rfl hHeld ?_
  try simp only [Act.put, rg1, rg2, rg3]
  refine rgt 4 44 rfl rfl hHeld ?_
  try simp only [Act.put, rg1, rg2, rg3]
  refine rgt 5 45 rfl rfl hHeld ?_
  try simp only [Act.put, rg1, rg2, rg3]
  refine rgt 6 46 rfl rfl hHeld ?_
  try simp only [Act.put, rg1, rg2, rg3]
  refine rgt 7 47 rfl rfl hHeld ?_
  try simp only [Act.put, rg1, rg2, rg3]
  refine rgc 8 (some 48) rfl (fun K hK => ?_)
  go_simp
  ((refine (H1.out _).mono ?_); rintro e w6 ⟨rfl, hb6⟩)
  refine hK.out _ _ ?ss203 (fun hHeld2 => ?rr203)
  case ss203 => (try dsimp only); exact HK.out _ (bl hHeld.2.1 hb6)
  clear hK K
  clear hHeld
  have hHeld := hHeld2
  clear hHeld2
  try simp only [Act.put, rg1, rg2, rg3]
  refine rgt 9 49 rfl rfl hHeld ?_
  try simp only [Act.put, rg1, rg2, rg3]
  refine rgt 10 50 rfl rfl hHeld ?_
  try simp only [Act.put, rg1, rg2, rg3]
  refine rgt 11 51 rfl rfl hHeld ?_
  try simp only [Act.put, rg1, rg2, rg3]
  refine rgt 12 52 rfl rfl hHeld ?_
  try simp only [Act.put, rg1, rg2, rg3]
  refine rgt 13 53 rfl rfl hHeld ?_
  try simp only [Act.put, rg1, rg2, rg3]
  refine rgt 14 54 rfl rfl hHeld ?_
  try simp only [Act.put, rg1, rg2, rg3]
  refine rgt 15 55 rfl rfl hHeld ?_
  try simp only [Act.put, rg1, rg2, rg3]
  refine rgt 16 56 rfl rfl hHeld ?_
  try simp only [Act.put, rg1, rg2, rg3]
  refine rgt 17 57 rfl rfl hHeld ?_
  try simp only [Act.put, rg1, rg2, rg3]
  refine rgc 18 (some 58) rfl (fun K hK => ?_)
  go_simp
  ((refine (H2.out _).mono ?_); rintro e w6 ⟨rfl, hb6⟩)
  refine hK.out _ _ ?ss213 (fun hHeld2 => ?rr213)
  case ss213 => (try dsimp only); exact HK.out _ (bl hHeld.2.1 hb6)
  clear hK K
  clear hHeld
  have hHeld := hHeld2
  clear hHeld2
  try simp only [Act.put, rg1, rg2, rg3]
  refine rgt 19 59 rfl rfl hHeld ?_
  try simp only [Act.put, rg1, rg2, rg3]
  refine rgt 20 6 rfl rfl hHeld ?_
  try simp only [Act.put, rg1, rg2, rg3]
  refine wpAnyH_done (by kernel_rfl) ?_ _
  obtain ⟨hB, _⟩ := hHeld
  have HB2 := Lib.hid hB
  clear hB
  go_wp2_with fail
  go_ret
  exact ⟨rfl, HB2.out⟩

set_option maxRecDepth 100000 in
set_option maxHeartbeats 4000000 in
theorem parts_44fm (a b c d : Ty) (w : World) (h1 : AskQ 81 (str a) (str c) false) (hS : (Ty.bin 44 a b).ok) (hT : (Ty.bin 44 c d).ok) (hS64 : (Ty.bin 44 a b).code.length ≤ 64) (hT64 : (Ty.bin 44 c d).code.length ≤ 64) :
    Calls Tryz.prog 95 #[.string (str (Ty.bin 44 a b)), .string (str (Ty.bin 44 c d)), .agg #[fv 81, fv 80]] w fun e w' => e = .returned (.bool false) ∧ Below w.heap.size w w' := by
  have hP1 := fun W => Parts_yes (Ty.bin 44 a b) W hS hS64
  have hP2 := fun W => Parts_yes (Ty.bin 44 c d) W hT hT64
  have hH := fun W => Head_yes (Ty.bin 44 a b) W hS hS64
  rw [show ((Ty.bin 44 a b).head.toNat : Int) = 44 from rfl] at hH
  unfold PartsR at hP1 hP2
  simp only [Ty.kids] at hP1 hP2
  generalize str (Ty.bin 44 a b) = s at *
  generalize str (Ty.bin 44 c d) = t at *
  have H1 := Lib.hid h1
  have HT := Lib.hid turned_any
  have HP1 := Lib.hid hP1
  have HP2 := Lib.hid hP2
  have HH := Lib.hid hH
  clear h1 hP1 hP2 hH
  unfold fv
  unfold fv at HT
  go_enter Tryz.func95, Tryz.ntmps95
  have hfl : ∀ wq, (Instr.field 140 (.agg #[.func (.func 80) #[] #[], .func (.func 81) #[] #[]]) 0).run Tryz.prog wq = .ok (.func (.func 80) #[] #[]) wq := fun wq => by kernel_rfl
  go_wp2_with fail
  (refine (HP1.out _).mono ?_); rintro e w1 ⟨V1, rfl, ho1, hb1⟩
  obtain ⟨g1, c1, rfl, hc1, hg1, hp1⟩ := parts_row ho1 (by simp)
  go_wp2_with fail
  (refine (HP2.out _).mono ?_); rintro e w2 ⟨V2, rfl, ho2, hb2⟩
  obtain ⟨g2, c2, rfl, hc2, hg2, hp2⟩ := parts_row ho2 (by simp)
  simp only [List.length_cons, List.length_nil, Nat.zero_add] at hc1 hc2
  obtain ⟨W0, hW0⟩ : ∃ W0, w.alloc (.cells #[.func (.func 81) #[] #[], .func (.func 80) #[] #[]] 140) = W0 := ⟨_, rfl⟩
  have hbk : Blk W0 w.heap.size 140 #[.func (.func 81) #[] #[], .func (.func 80) #[] #[]] := by rw [← hW0]; exact Blk.new _ _ _
  have hbw : Below w.heap.size w W0 := by rw [← hW0]; exact bal b0 _
  rw [hW0] at hb1
  have hb02 : Below W0.heap.size W0 w2 := bl hb1 hb2
  have hbw2 : Below w.heap.size w w2 := bl hbw hb02
  have hbk2 := hbk.below hb02 hbk.lt
  have HK := Lib.hid (show ∀ W', Below w2.heap.size w2 W' → (Below w.heap.size w W' ∧ Below w2.heap.size w2 W' ∧ W'.cell? ⟨w.heap.size, 0, none⟩ = some (.func (.func 81) #[] #[]) ∧ W'.cell? ⟨w.heap.size, 1, none⟩ = some (.func (.func 80) #[] #[]) ∧ W'.cell? ⟨g1, 0, none⟩ = some (.string (str a)) ∧ W'.cell? ⟨g1, 1, none⟩ = some (.string (str b)) ∧ W'.cell? ⟨g2, 0, none⟩ = some (.string (str c)) ∧ W'.cell? ⟨g2, 1, none⟩ = some (.string (str d))) from fun W' hb' => ⟨bl hbw2 hb', hb', ((hbk2.below hb' hbk2.lt).cell 0).trans rfl, ((hbk2.below hb' hbk2.lt).cell 1).trans rfl, ((bl hb2 hb').cell (p := ⟨g1, 0, none⟩) hg1).trans (hp1 0 _ rfl), ((bl hb2 hb').cell (p := ⟨g1, 1, none⟩) hg1).trans (hp1 1 _ rfl), (hb'.cell (p := ⟨g2, 0, none⟩) hg2).trans (hp2 0 _ rfl), (hb'.cell (p := ⟨g2, 1, none⟩) hg2).trans (hp2 1 _ rfl)⟩)
  clear hbk hbw hW0 hb1 hb2 hb02 hbw2 hbk2 ho1 ho2 hp1 hp2
  go_wp2_with fail
  (refine (HH.out _).mono ?_); rintro e w4 ⟨rfl, rfl⟩
  go_upto_region 6 with fail
  refine wp_region_held_drew (S := (fun W' => Below w.heap.size w W' ∧ Below w2.heap.size w2 W' ∧ W'.cell? ⟨w.heap.size, 0, none⟩ = some (.func (.func 81) #[] #[]) ∧ W'.cell? ⟨w.heap.size, 1, none⟩ = some (.func (.func 80) #[] #[]) ∧ W'.cell? ⟨g1, 0, none⟩ = some (.string (str a)) ∧ W'.cell? ⟨g1, 1, none⟩ = some (.string (str b)) ∧ W'.cell? ⟨g2, 0, none⟩ = some (.string (str c)) ∧ W'.cell? ⟨g2, 1, none⟩ = some (.string (str d)))) (by kernel_rfl) ?ss216 (fun hHeld => ?rr216)
  case ss216 => (try dsimp only); exact HK.out _ (Below.refl _ _).drew
  refine rgt 0 40 rfl rfl hHeld ?_
  try simp only [Act.put, rg1, rg2, rg3]
  refine rgt 1 41 rfl rfl hHeld ?_
  try simp only [Act.put, rg1, rg2, rg3]
  refine rgt 2 42 rfl rfl hHeld ?_
  try simp only [Act.put, rg1, rg2, rg3]
  refine rgt 3 43 rfl rfl hHeld ?_
  try simp only [Act.put, rg1, rg2, rg3]
  refine rgt 4 44 rfl rfl hHeld ?_
  try simp only [Act.put, rg1, rg2, rg3]
  refine rgt 5 45 rfl rfl hHeld ?_
  try simp only [Act.put, rg1, rg2, rg3]
  refine rgt 6 46 rfl rfl hHeld ?_
  try simp only [Act.put, rg1, rg2, rg3]
  refine rgt 7 47 rfl rfl hHeld ?_
  try simp only [Act.put, rg1, rg2, rg3]
  refine rgc 8 (some 48) rfl (fun K hK => ?_)
  go_simp
  ((refine (H1.out _).mono ?_); rintro e w6 ⟨rfl, hb6⟩)
  refine hK.out _ _ ?ss225 (fun hHeld2 => ?rr225)
  case ss225 => (try dsimp only); exact HK.out _ (bl hHeld.2.1 hb6)
  clear hK K
  clear hHeld
  have hHeld := hHeld2
  clear hHeld2
  try simp only [Act.put, rg1, rg2, rg3]
  refine rgt 9 49 rfl rfl hHeld ?_
  try simp only [Act.put, rg1, rg2, rg3]
  refine rgn 10 50 rfl rfl hHeld ?_
  try simp only [Act.put, rg1, rg2, rg3]
  refine rgn 11 51 rfl rfl hHeld ?_
  try simp only [Act.put, rg1, rg2, rg3]
  refine rgn 12 52 rfl rfl hHeld ?_
  try simp only [Act.put, rg1, rg2, rg3]
  refine rgn 13 53 rfl rfl hHeld ?_
  try simp only [Act.put, rg1, rg2, rg3]
  refine rgn 14 54 rfl rfl hHeld ?_
  try simp only [Act.put, rg1, rg2, rg3]
  refine rgn 15 55 rfl rfl hHeld ?_
  try simp only [Act.put, rg1, rg2, rg3]
  refine rgn 16 56 rfl rfl hHeld ?_
  try simp only [Act.put, rg1, rg2, rg3]
  refine rgn 17 57 rfl rfl hHeld ?_
  try simp only [Act.put, rg1, rg2, rg3]
  refine rgn 18 58 rfl rfl hHeld ?_
  try simp only [Act.put, rg1, rg2, rg3]
  refine rgt 19 59 rfl rfl hHeld ?_
  try simp only [Act.put, rg1, rg2, rg3]
  refine rgt 20 6 rfl rfl hHeld ?_
  try simp only [Act.put, rg1, rg2, rg3]
  refine wpAnyH_done (by kernel_rfl) ?_ _
  obtain ⟨hB, _⟩ := hHeld
  have HB2 := Lib.hid hB
  clear hB
  go_wp2_with fail
  go_ret
  exact ⟨rfl, HB2.out⟩

set_option maxRecDepth 100000 in
set_option maxHeartbeats 4000000 in
theorem parts_108m (a c : Ty) (w : World) (p : Bool) (h1 : AskQ 81 (str a) (str c) p) (hS : (Ty.un 108 a).ok) (hT : (Ty.un 108 c).ok) (hS64 : (Ty.un 108 a).code.length ≤ 64) (hT64 : (Ty.un 108 c).code.length ≤ 64) :
    Calls Tryz.prog 95 #[.string (str (Ty.un 108 a)), .string (str (Ty.un 108 c)), .agg #[fv 81, fv 80]] w fun e w' => e = .returned (.bool p) ∧ Below w.heap.size w w' := by
  have hP1 := fun W => Parts_yes (Ty.un 108 a) W hS hS64
  have hP2 := fun W => Parts_yes (Ty.un 108 c) W hT hT64
  have hH := fun W => Head_yes (Ty.un 108 a) W hS hS64
  rw [show ((Ty.un 108 a).head.toNat : Int) = 108 from rfl] at hH
  unfold PartsR at hP1 hP2
  simp only [Ty.kids] at hP1 hP2
  generalize str (Ty.un 108 a) = s at *
  generalize str (Ty.un 108 c) = t at *
  have H1 := Lib.hid h1
  have HT := Lib.hid turned_any
  have HP1 := Lib.hid hP1
  have HP2 := Lib.hid hP2
  have HH := Lib.hid hH
  clear h1 hP1 hP2 hH
  unfold fv
  unfold fv at HT
  go_enter Tryz.func95, Tryz.ntmps95
  have hfl : ∀ wq, (Instr.field 140 (.agg #[.func (.func 80) #[] #[], .func (.func 81) #[] #[]]) 0).run Tryz.prog wq = .ok (.func (.func 80) #[] #[]) wq := fun wq => by kernel_rfl
  go_wp2_with fail
  (refine (HP1.out _).mono ?_); rintro e w1 ⟨V1, rfl, ho1, hb1⟩
  obtain ⟨g1, c1, rfl, hc1, hg1, hp1⟩ := parts_row ho1 (by simp)
  go_wp2_with fail
  (refine (HP2.out _).mono ?_); rintro e w2 ⟨V2, rfl, ho2, hb2⟩
  obtain ⟨g2, c2, rfl, hc2, hg2, hp2⟩ := parts_row ho2 (by simp)
  simp only [List.length_cons, List.length_nil, Nat.zero_add] at hc1 hc2
  obtain ⟨W0, hW0⟩ : ∃ W0, w.alloc (.cells #[.func (.func 81) #[] #[], .func (.func 80) #[] #[]] 140) = W0 := ⟨_, rfl⟩
  have hbk : Blk W0 w.heap.size 140 #[.func (.func 81) #[] #[], .func (.func 80) #[] #[]] := by rw [← hW0]; exact Blk.new _ _ _
  have hbw : Below w.heap.size w W0 := by rw [← hW0]; exact bal b0 _
  rw [hW0] at hb1
  have hb02 : Below W0.heap.size W0 w2 := bl hb1 hb2
  have hbw2 : Below w.heap.size w w2 := bl hbw hb02
  have hbk2 := hbk.below hb02 hbk.lt
  have HK := Lib.hid (show ∀ W', Below w2.heap.size w2 W' → (Below w.heap.size w W' ∧ Below w2.heap.size w2 W' ∧ W'.cell? ⟨w.heap.size, 0, none⟩ = some (.func (.func 81) #[] #[]) ∧ W'.cell? ⟨w.heap.size, 1, none⟩ = some (.func (.func 80) #[] #[]) ∧ W'.cell? ⟨g1, 0, none⟩ = some (.string (str a)) ∧ W'.cell? ⟨g2, 0, none⟩ = some (.string (str c))) from fun W' hb' => ⟨bl hbw2 hb', hb', ((hbk2.below hb' hbk2.lt).cell 0).trans rfl, ((hbk2.below hb' hbk2.lt).cell 1).trans rfl, ((bl hb2 hb').cell (p := ⟨g1, 0, none⟩) hg1).trans (hp1 0 _ rfl), (hb'.cell (p := ⟨g2, 0, none⟩) hg2).trans (hp2 0 _ rfl)⟩)
  clear hbk hbw hW0 hb1 hb2 hb02 hbw2 hbk2 ho1 ho2 hp1 hp2
  go_wp2_with fail
  (refine (HH.out _).mono ?_); rintro e w4 ⟨rfl, rfl⟩
  go_upto_region 8 with fail
  refine wp_region_held_drew (S := (fun W' => Below w.heap.size w W' ∧ Below w2.heap.size w2 W' ∧ W'.cell? ⟨w.heap.size, 0, none⟩ = some (.func (.func 81) #[] #[]) ∧ W'.cell? ⟨w.heap.size, 1, none⟩ = some (.func (.func 80) #[] #[]) ∧ W'.cell? ⟨g1, 0, none⟩ = some (.string (str a)) ∧ W'.cell? ⟨g2, 0, none⟩ = some (.string (str c)))) (by kernel_rfl) ?ss238 (fun hHeld => ?rr238)
  case ss238 => (try dsimp only); exact HK.out _ (Below.refl _ _).drew
  refine rgt 0 62 rfl rfl hHeld ?_
  try simp only [Act.put, rg1, rg2, rg3]
  refine rgt 1 63 rfl rfl hHeld ?_
  try simp only [Act.put, rg1, rg2, rg3]
  refine rgt 2 64 rfl rfl hHeld ?_
  try simp only [Act.put, rg1, rg2, rg3]
  refine rgt 3 65 rfl rfl hHeld ?_
  try simp only [Act.put, rg1, rg2, rg3]
  refine rgt 4 66 rfl rfl hHeld ?_
  try simp only [Act.put, rg1, rg2, rg3]
  refine rgt 5 67 rfl rfl hHeld ?_
  try simp only [Act.put, rg1, rg2, rg3]
  refine rgt 6 68 rfl rfl hHeld ?_
  try simp only [Act.put, rg1, rg2, rg3]
  refine rgt 7 69 rfl rfl hHeld ?_
  try simp only [Act.put, rg1, rg2, rg3]
  refine rgc 8 (some 70) rfl (fun K hK => ?_)
  go_simp
  ((refine (H1.out _).mono ?_); rintro e w6 ⟨rfl, hb6⟩)
  refine hK.out _ _ ?ss247 (fun hHeld2 => ?rr247)
  case ss247 => (try dsimp only); exact HK.out _ (bl hHeld.2.1 hb6)
  clear hK K
  clear hHeld
  have hHeld := hHeld2
  clear hHeld2
  try simp only [Act.put, rg1, rg2, rg3]
  refine rgt 9 6 rfl rfl hHeld ?_
  try simp only [Act.put, rg1, rg2, rg3]
  refine wpAnyH_done (by kernel_rfl) ?_ _
  obtain ⟨hB, _⟩ := hHeld
  have HB2 := Lib.hid hB
  clear hB
  go_wp2_with fail
  go_ret
  exact ⟨rfl, HB2.out⟩

set_option maxRecDepth 100000 in
set_option maxHeartbeats 4000000 in
theorem parts_120tm (a c : Ty) (w : World) (h1 : AskQ 81 (str a) (str c) true) (q : Bool) (h2 : AskQ 80 (str c) (str a) q) (hS : (Ty.un 120 a).ok) (hT : (Ty.un 120 c).ok) (hS64 : (Ty.un 120 a).code.length ≤ 64) (hT64 : (Ty.un 120 c).code.length ≤ 64) :
    Calls Tryz.prog 95 #[.string (str (Ty.un 120 a)), .string (str (Ty.un 120 c)), .agg #[fv 81, fv 80]] w fun e w' => e = .returned (.bool q) ∧ Below w.heap.size w w' := by
  have hP1 := fun W => Parts_yes (Ty.un 120 a) W hS hS64
  have hP2 := fun W => Parts_yes (Ty.un 120 c) W hT hT64
  have hH := fun W => Head_yes (Ty.un 120 a) W hS hS64
  rw [show ((Ty.un 120 a).head.toNat : Int) = 120 from rfl] at hH
  unfold PartsR at hP1 hP2
  simp only [Ty.kids] at hP1 hP2
  generalize str (Ty.un 120 a) = s at *
  generalize str (Ty.un 120 c) = t at *
  have H1 := Lib.hid h1
  have HT := Lib.hid turned_any
  have HP1 := Lib.hid hP1
  have HP2 := Lib.hid hP2
  have HH := Lib.hid hH
  have H2 := Lib.hid h2
  clear h1 hP1 hP2 hH h2
  unfold fv
  unfold fv at HT
  go_enter Tryz.func95, Tryz.ntmps95
  have hfl : ∀ wq, (Instr.field 140 (.agg #[.func (.func 80) #[] #[], .func (.func 81) #[] #[]]) 0).run Tryz.prog wq = .ok (.func (.func 80) #[] #[]) wq := fun wq => by kernel_rfl
  go_wp2_with fail
  (refine (HP1.out _).mono ?_); rintro e w1 ⟨V1, rfl, ho1, hb1⟩
  obtain ⟨g1, c1, rfl, hc1, hg1, hp1⟩ := parts_row ho1 (by simp)
  go_wp2_with fail
  (refine (HP2.out _).mono ?_); rintro e w2 ⟨V2, rfl, ho2, hb2⟩
  obtain ⟨g2, c2, rfl, hc2, hg2, hp2⟩ := parts_row ho2 (by simp)
  simp only [List.length_cons, List.length_nil, Nat.zero_add] at hc1 hc2
  obtain ⟨W0, hW0⟩ : ∃ W0, w.alloc (.cells #[.func (.func 81) #[] #[], .func (.func 80) #[] #[]] 140) = W0 := ⟨_, rfl⟩
  have hbk : Blk W0 w.heap.size 140 #[.func (.func 81) #[] #[], .func (.func 80) #[] #[]] := by rw [← hW0]; exact Blk.new _ _ _
  have hbw : Below w.heap.size w W0 := by rw [← hW0]; exact bal b0 _
  rw [hW0] at hb1
  have hb02 : Below W0.heap.size W0 w2 := bl hb1 hb2
  have hbw2 : Below w.heap.size w w2 := bl hbw hb02
  have hbk2 := hbk.below hb02 hbk.lt
  have HK := Lib.hid (show ∀ W', Below w2.heap.size w2 W' → (Below w.heap.size w W' ∧ Below w2.heap.size w2 W' ∧ W'.cell? ⟨w.heap.size, 0, none⟩ = some (.func (.func 81) #[] #[]) ∧ W'.cell? ⟨w.heap.size, 1, none⟩ = some (.func (.func 80) #[] #[]) ∧ W'.cell? ⟨g1, 0, none⟩ = some (.string (str a)) ∧ W'.cell? ⟨g2, 0, none⟩ = some (.string (str c))) from fun W' hb' => ⟨bl hbw2 hb', hb', ((hbk2.below hb' hbk2.lt).cell 0).trans rfl, ((hbk2.below hb' hbk2.lt).cell 1).trans rfl, ((bl hb2 hb').cell (p := ⟨g1, 0, none⟩) hg1).trans (hp1 0 _ rfl), (hb'.cell (p := ⟨g2, 0, none⟩) hg2).trans (hp2 0 _ rfl)⟩)
  clear hbk hbw hW0 hb1 hb2 hb02 hbw2 hbk2 ho1 ho2 hp1 hp2
  go_wp2_with fail
  (refine (HH.out _).mono ?_); rintro e w4 ⟨rfl, rfl⟩
  go_upto_region 10 with fail
  refine wp_region_held_drew (S := (fun W' => Below w.heap.size w W' ∧ Below w2.heap.size w2 W' ∧ W'.cell? ⟨w.heap.size, 0, none⟩ = some (.func (.func 81) #[] #[]) ∧ W'.cell? ⟨w.heap.size, 1, none⟩ = some (.func (.func 80) #[] #[]) ∧ W'.cell? ⟨g1, 0, none⟩ = some (.string (str a)) ∧ W'.cell? ⟨g2, 0, none⟩ = some (.string (str c)))) (by kernel_rfl) ?ss249 (fun hHeld => ?rr249)
  case ss249 => (try dsimp only); exact HK.out _ (Below.refl _ _).drew
  refine rgt 0 73 rfl rfl hHeld ?_
  try simp only [Act.put, rg1, rg2, rg3]
  refine rgt 1 74 rfl rfl hHeld ?_
  try simp only [Act.put, rg1, rg2, rg3]
  refine rgt 2 75 rfl rfl hHeld ?_
  try simp only [Act.put, rg1, rg2, rg3]
  refine rgt 3 76 rfl rfl hHeld ?_
  try simp only [Act.put, rg1, rg2, rg3]
  refine rgt 4 77 rfl rfl hHeld ?_
  try simp only [Act.put, rg1, rg2, rg3]
  refine rgt 5 78 rfl rfl hHeld ?_
  try simp only [Act.put, rg1, rg2, rg3]
  refine rgt 6 79 rfl rfl hHeld ?_
  try simp only [Act.put, rg1, rg2, rg3]
  refine rgt 7 80 rfl rfl hHeld ?_
  try simp only [Act.put, rg1, rg2, rg3]
  refine rgc 8 (some 81) rfl (fun K hK => ?_)
  go_simp
  ((refine (H1.out _).mono ?_); rintro e w6 ⟨rfl, hb6⟩)
  refine hK.out _ _ ?ss258 (fun hHeld2 => ?rr258)
  case ss258 => (try dsimp only); exact HK.out _ (bl hHeld.2.1 hb6)
  clear hK K
  clear hHeld
  have hHeld := hHeld2
  clear hHeld2
  try simp only [Act.put, rg1, rg2, rg3]
  refine rgt 9 82 rfl rfl hHeld ?_
  try simp only [Act.put, rg1, rg2, rg3]
  refine rgt 10 83 rfl rfl hHeld ?_
  try simp only [Act.put, rg1, rg2, rg3]
  refine rgt 13 86 rfl rfl hHeld ?_
  try simp only [Act.put, rg1, rg2, rg3]
  refine rgt 14 87 rfl rfl hHeld ?_
  try simp only [Act.put, rg1, rg2, rg3]
  refine rgt 15 88 rfl rfl hHeld ?_
  try simp only [Act.put, rg1, rg2, rg3]
  refine rgt 16 89 rfl rfl hHeld ?_
  try simp only [Act.put, rg1, rg2, rg3]
  refine rgt 17 90 rfl rfl hHeld ?_
  try simp only [Act.put, rg1, rg2, rg3]
  refine rgt 18 91 rfl rfl hHeld ?_
  try simp only [Act.put, rg1, rg2, rg3]
  refine rgc 11 (some 84) rfl (fun K hK => ?_)
  go_simp
  ((refine (HT.out _ _ _).mono ?_); rintro e w6 ⟨rfl, hb6⟩)
  refine hK.out _ _ ?ss267 (fun hHeld2 => ?rr267)
  case ss267 => (try dsimp only); exact HK.out _ (bl hHeld.2.1 hb6)
  clear hK K
  clear hHeld
  have hHeld := hHeld2
  clear hHeld2
  try simp only [Act.put, rg1, rg2, rg3]
  refine rgt 12 85 rfl rfl hHeld ?_
  try simp only [Act.put, rg1, rg2, rg3]
  refine rgc 19 (some 92) rfl (fun K hK => ?_)
  go_simp
  ((refine (H2.out _).mono ?_); rintro e w6 ⟨rfl, hb6⟩)
  refine hK.out _ _ ?ss269 (fun hHeld2 => ?rr269)
  case ss269 => (try dsimp only); exact HK.out _ (bl hHeld.2.1 hb6)
  clear hK K
  clear hHeld
  have hHeld := hHeld2
  clear hHeld2
  try simp only [Act.put, rg1, rg2, rg3]
  refine rgt 20 93 rfl rfl hHeld ?_
  try simp only [Act.put, rg1, rg2, rg3]
  refine rgt 21 6 rfl rfl hHeld ?_
  try simp only [Act.put, rg1, rg2, rg3]
  refine wpAnyH_done (by kernel_rfl) ?_ _
  obtain ⟨hB, _⟩ := hHeld
  have HB2 := Lib.hid hB
  clear hB
  go_wp2_with fail
  go_ret
  exact ⟨rfl, HB2.out⟩

set_option maxRecDepth 100000 in
set_option maxHeartbeats 4000000 in
theorem parts_120fm (a c : Ty) (w : World) (h1 : AskQ 81 (str a) (str c) false) (hS : (Ty.un 120 a).ok) (hT : (Ty.un 120 c).ok) (hS64 : (Ty.un 120 a).code.length ≤ 64) (hT64 : (Ty.un 120 c).code.length ≤ 64) :
    Calls Tryz.prog 95 #[.string (str (Ty.un 120 a)), .string (str (Ty.un 120 c)), .agg #[fv 81, fv 80]] w fun e w' => e = .returned (.bool false) ∧ Below w.heap.size w w' := by
  have hP1 := fun W => Parts_yes (Ty.un 120 a) W hS hS64
  have hP2 := fun W => Parts_yes (Ty.un 120 c) W hT hT64
  have hH := fun W => Head_yes (Ty.un 120 a) W hS hS64
  rw [show ((Ty.un 120 a).head.toNat : Int) = 120 from rfl] at hH
  unfold PartsR at hP1 hP2
  simp only [Ty.kids] at hP1 hP2
  generalize str (Ty.un 120 a) = s at *
  generalize str (Ty.un 120 c) = t at *
  have H1 := Lib.hid h1
  have HT := Lib.hid turned_any
  have HP1 := Lib.hid hP1
  have HP2 := Lib.hid hP2
  have HH := Lib.hid hH
  clear h1 hP1 hP2 hH
  unfold fv
  unfold fv at HT
  go_enter Tryz.func95, Tryz.ntmps95
  have hfl : ∀ wq, (Instr.field 140 (.agg #[.func (.func 80) #[] #[], .func (.func 81) #[] #[]]) 0).run Tryz.prog wq = .ok (.func (.func 80) #[] #[]) wq := fun wq => by kernel_rfl
  go_wp2_with fail
  (refine (HP1.out _).mono ?_); rintro e w1 ⟨V1, rfl, ho1, hb1⟩
  obtain ⟨g1, c1, rfl, hc1, hg1, hp1⟩ := parts_row ho1 (by simp)
  go_wp2_with fail
  (refine (HP2.out _).mono ?_); rintro e w2 ⟨V2, rfl, ho2, hb2⟩
  obtain ⟨g2, c2, rfl, hc2, hg2, hp2⟩ := parts_row ho2 (by simp)
  simp only [List.length_cons, List.length_nil, Nat.zero_add] at hc1 hc2
  obtain ⟨W0, hW0⟩ : ∃ W0, w.alloc (.cells #[.func (.func 81) #[] #[], .func (.func 80) #[] #[]] 140) = W0 := ⟨_, rfl⟩
  have hbk : Blk W0 w.heap.size 140 #[.func (.func 81) #[] #[], .func (.func 80) #[] #[]] := by rw [← hW0]; exact Blk.new _ _ _
  have hbw : Below w.heap.size w W0 := by rw [← hW0]; exact bal b0 _
  rw [hW0] at hb1
  have hb02 : Below W0.heap.size W0 w2 := bl hb1 hb2
  have hbw2 : Below w.heap.size w w2 := bl hbw hb02
  have hbk2 := hbk.below hb02 hbk.lt
  have HK := Lib.hid (show ∀ W', Below w2.heap.size w2 W' → (Below w.heap.size w W' ∧ Below w2.heap.size w2 W' ∧ W'.cell? ⟨w.heap.size, 0, none⟩ = some (.func (.func 81) #[] #[]) ∧ W'.cell? ⟨w.heap.size, 1, none⟩ = some (.func (.func 80) #[] #[]) ∧ W'.cell? ⟨g1, 0, none⟩ = some (.string (str a)) ∧ W'.cell? ⟨g2, 0, none⟩ = some (.string (str c))) from fun W' hb' => ⟨bl hbw2 hb', hb', ((hbk2.below hb' hbk2.lt).cell 0).trans rfl, ((hbk2.below hb' hbk2.lt).cell 1).trans rfl, ((bl hb2 hb').cell (p := ⟨g1, 0, none⟩) hg1).trans (hp1 0 _ rfl), (hb'.cell (p := ⟨g2, 0, none⟩) hg2).trans (hp2 0 _ rfl)⟩)
  clear hbk hbw hW0 hb1 hb2 hb02 hbw2 hbk2 ho1 ho2 hp1 hp2
  go_wp2_with fail
  (refine (HH.out _).mono ?_); rintro e w4 ⟨rfl, rfl⟩
  go_upto_region 10 with fail
  refine wp_region_held_drew (S := (fun W' => Below w.heap.size w W' ∧ Below w2.heap.size w2 W' ∧ W'.cell? ⟨w.heap.size, 0, none⟩ = some (.func (.func 81) #[] #[]) ∧ W'.cell? ⟨w.heap.size, 1, none⟩ = some (.func (.func 80) #[] #[]) ∧ W'.cell? ⟨g1, 0, none⟩ = some (.string (str a)) ∧ W'.cell? ⟨g2, 0, none⟩ = some (.string (str c)))) (by kernel_rfl) ?ss272 (fun hHeld => ?rr272)
  case ss272 => (try dsimp only); exact HK.out _ (Below.refl _ _).drew
  refine rgt 0 73 rfl rfl hHeld ?_
  try simp only [Act.put, rg1, rg2, rg3]
  refine rgt 1 74 rfl rfl hHeld ?_
  try simp only [Act.put, rg1, rg2, rg3]
  refine rgt 2 75 rfl rfl hHeld ?_
  try simp only [Act.put, rg1, rg2, rg3]
  refine rgt 3 76 rfl rfl hHeld ?_
  try simp only [Act.put, rg1, rg2, rg3]
  refine rgt 4 77 rfl rfl hHeld ?_
  try simp only [Act.put, rg1, rg2, rg3]
  refine rgt 5 78 rfl rfl hHeld ?_
  try simp only [Act.put, rg1, rg2, rg3]
  refine rgt 6 79 rfl rfl hHeld ?_
  try simp only [Act.put, rg1, rg2, rg3]
  refine rgt 7 80 rfl rfl hHeld ?_
  try simp only [Act.put, rg1, rg2, rg3]
  refine rgc 8 (some 81) rfl (fun K hK => ?_)
  go_simp
  ((refine (H1.out _).mono ?_); rintro e w6 ⟨rfl, hb6⟩)
  refine hK.out _ _ ?ss281 (fun hHeld2 => ?rr281)
  case ss281 => (try dsimp only); exact HK.out _ (bl hHeld.2.1 hb6)
  clear hK K
  clear hHeld
  have hHeld := hHeld2
  clear hHeld2
  try simp only [Act.put, rg1, rg2, rg3]
  refine rgt 9 82 rfl rfl hHeld ?_
  try simp only [Act.put, rg1, rg2, rg3]
  refine rgn 10 83 rfl rfl hHeld ?_
  try simp only [Act.put, rg1, rg2, rg3]
  refine rgn 11 84 rfl rfl hHeld ?_
  try simp only [Act.put, rg1, rg2, rg3]
  refine rgn 12 85 rfl rfl hHeld ?_
  try simp only [Act.put, rg1, rg2, rg3]
  refine rgn 13 86 rfl rfl hHeld ?_
  try simp only [Act.put, rg1, rg2, rg3]
  refine rgn 14 87 rfl rfl hHeld ?_
  try simp only [Act.put, rg1, rg2, rg3]
  refine rgn 15 88 rfl rfl hHeld ?_
  try simp only [Act.put, rg1, rg2, rg3]
  refine rgn 16 89 rfl rfl hHeld ?_
  try simp only [Act.put, rg1, rg2, rg3]
  refine rgn 17 90 rfl rfl hHeld ?_
  try simp only [Act.put, rg1, rg2, rg3]
  refine rgn 18 91 rfl rfl hHeld ?_
  try simp only [Act.put, rg1, rg2, rg3]
  refine rgn 19 92 rfl rfl hHeld ?_
  try simp only [Act.put, rg1, rg2, rg3]
  refine rgt 20 93 rfl rfl hHeld ?_
  try simp only [Act.put, rg1, rg2, rg3]
  refine rgt 21 6 rfl rfl hHeld ?_
  try simp only [Act.put, rg1, rg2, rg3]
  refine wpAnyH_done (by kernel_rfl) ?_ _
  obtain ⟨hB, _⟩ := hHeld
  have HB2 := Lib.hid hB
  clear hB
  go_wp2_with fail
  go_ret
  exact ⟨rfl, HB2.out⟩

set_option maxRecDepth 100000 in
/-- A type without parts. -/
theorem parts_leaf (F G : Nat) (h : UInt8) (T : Ty) (w : World) (hS : (Ty.leaf h).ok) (hT : T.ok) (hT64 : T.code.length ≤ 64) :
    Calls Tryz.prog 95 #[.string (str (Ty.leaf h)), .string (str T), .agg #[fv F, fv G]] w fun e w' => e = .returned (.bool true) ∧ Below w.heap.size w w' := by
  have hS64 : (Ty.leaf h).code.length ≤ 64 := by simp [Ty.code]
  have hP1 := fun W => Parts_yes (Ty.leaf h) W hS hS64
  have hP2 := fun W => Parts_yes T W hT hT64
  have hH := fun W => Head_yes (Ty.leaf h) W hS hS64
  unfold PartsR at hP1 hP2
  have e0 : ∀ k : Nat, k = 62 ∨ k = 44 ∨ k = 108 ∨ k = 120 → (((Ty.leaf h).head.toNat : Int) == (k : Int)) = false := by
    intro k hk
    have h0 : arB h = 0 := hS
    have : h.toNat ≠ k := by
      intro e
      have e2 : h = UInt8.ofNat k := by rw [← e]; simp
      rcases hk with rfl | rfl | rfl | rfl <;> (rw [e2] at h0; exact absurd h0 (by decide))
    simp only [Ty.head, beq_eq_false_iff_ne, ne_eq, Int.natCast_inj]
    exact this
  have e1 : (((Ty.leaf h).head.toNat : Int) == 62) = false := e0 62 (by simp)
  have e2 : (((Ty.leaf h).head.toNat : Int) == 44) = false := e0 44 (by simp)
  have e3 : (((Ty.leaf h).head.toNat : Int) == 108) = false := e0 108 (by simp)
  have e4 : (((Ty.leaf h).head.toNat : Int) == 120) = false := e0 120 (by simp)
  generalize ((Ty.leaf h).head.toNat : Int) = hd at *
  generalize str (Ty.leaf h) = s at *
  generalize str T = t at *
  clear e0 hS hT hS64 hT64
  unfold fv
  go_enter Tryz.func95, Tryz.ntmps95
  go_wp2_with fail
  (refine (hP1 _).mono ?_); rintro e w1 ⟨V1, rfl, ho1, hb1⟩
  go_wp2_with fail
  (refine (hP2 _).mono ?_); rintro e w2 ⟨V2, rfl, ho2, hb2⟩
  go_wp2_with fail
  (refine (hH _).mono ?_); rintro e w4 ⟨rfl, rfl⟩
  go_wp2_with fail
  go_ret
  exact ⟨rfl, bl (bl (bal b0 _) hb1) hb2⟩
end Go.Proofs.YtmagljnlfponaaaGreat.J
