/- Parts of this claim: CfH, CfI, CfJ. -/
import Derived.ScopeJumps
import Derived.Test.YtobplngonkdbpaaGreatDoorP18
import Derived.Test.YtobplngonkdbpaaGreatDoorP17
import Derived.Test.YtobplngonkdbpaaGreatDoorP19
import Derived.Test.YtobplngonkdbpaaGreatDoorP20
set_option linter.unusedVariables false
set_option linter.unusedSimpArgs false
/- CfH -/
namespace Go.Proofs.YtobplngonkdbpaaGreatDoor.D
open Go.RowKit
open Go.Proofs.YtobplngonkdbpaaGreatDoor.B
set_option linter.unusedVariables false
set_option linter.unusedSimpArgs false
set_option maxRecDepth 100000 in
set_option maxHeartbeats 4000000 in
theorem line_bad1 (r st B N : Nat) (L : CoL) (s : Bs) (w : World) (hl : s.length <= 1073741824) (hg : Gl w) (h8 : 8 <= r) (hr : RAt w r L st) (hN : (wordsP s).length = N) (hlN : N <= 1073741825) (hw0 : (wordsP s)[0]? = some kNum) (h2 : N ≠ 2)
  (hbad : stepV (st, L.code) s = none) :
  Calls Tryz.prog 48 #[.pointer (some ⟨r, 0, none⟩), strV s] w fun e w' => LineQ r st B L s w e w' := by
 have hW := words_p s w hl hg
 have HWS := Lib.hid (And.intro hN hw0)
 have hN0 : 0 < N := by
  rcases h : wordsP s with _ | ⟨x, l⟩
  · rw [h] at hw0; cases hw0
  · rw [h] at hN; simp at hN; omega
 rw [hN] at hW
 have HW := Lib.hid hW
 have HR := Lib.hid hr
 have HBAD := Lib.hid hbad
 have hrw := hr.blk.lt
 have HRW := Lib.hid hrw
 have hN0i : (0 : Int) < (N : Int) := by omega
 have hc : ((N : Int) == 2) = false := by simp; omega
 clear h2
 clear hW hr hg hN hw0 hbad hrw
 go_enter Tryz.func48, Tryz.ntmps48
 go_wp2_with fail
 refine wp_scope_jumps 0 (fun a' w' => a'.defers = [] /\ 4 < a'.tmps.size /\ Below r w w') (fun _ _ => 0) rfl ?first ?pass
 case first =>
  go_wp2_with fail
  (refine HW.out.mono ?_); rintro ev w1 ⟨v, rfl, hown, hb1⟩
  obtain ⟨hNN, bw, cw, rfl, hbw, hbw2, hcw, hq⟩ := wordsK hown (show 0 < (wordsP s).length by rw [HWS.out.1]; exact hN0)
  clear HW hNN
  have hq0 := hq 0 kNum HWS.out.2
  skip
  go_upto_region 3 with fail
  obtain ⟨cf, hcf⟩ : ∃ cf, w1.heap.size = cf := ⟨_, rfl⟩
  obtain ⟨W2, hW2⟩ : ∃ W2, w1.alloc (.cells #[.bool true] 141) = W2 := ⟨_, rfl⟩
  have hb2 : Below w.heap.size w W2 := by rw [<- hW2]; exact bal hb1 _
  have p0 : W2.cell? ⟨bw, 0, none⟩ = some (.string ⟨#[110, 117, 109]⟩) := by rw [<- hW2, World.cell?_alloc_lt _ _ _ hbw2]; exact hq0
  skip
  rw [hW2, hcf]
  have HB2 := Lib.hid hb2
  clear hq0 hq hW2 hcf hb1 hb2 hown hbw2 hbw
  go_wp2_with fail
  go_step3
  exact ⟨rfl, rfl, (by simp), HB2.out.mono (Nat.le_of_lt HRW.out)⟩
 case pass =>
  rintro a' w' ⟨hd, hs, hb⟩
  refine wp_seq (wp_skip (wp_seq (wp_region_lit (wpList_plain rfl fun K hK => ?_))))
  unfold Oper.wp execOp
  simp only [Sem.run_pure, Result.andThen_ok]
  refine hK _ _ (wpList_nil (wp_ret ?_))
  refine bodyPost_ret (v := .bool false) ((results_tmp rfl _ _ _).trans ?_) hd ⟨⟨false, rfl, fun _ => HBAD.out, fun h => by cases h⟩, hb⟩
  simp [Act.put, Act.eval, hs]
set_option maxRecDepth 100000 in
set_option maxHeartbeats 4000000 in
theorem line_bad2 (r st B N : Nat) (L : CoL) (s : Bs) (w : World) (hl : s.length <= 1073741824) (hg : Gl w) (h8 : 8 <= r) (hr : RAt w r L st) (hN : (wordsP s).length = N) (hlN : N <= 1073741825) (hw0 : (wordsP s)[0]? = some kText) (h2 : N ≠ 2)
  (hbad : stepV (st, L.code) s = none) :
  Calls Tryz.prog 48 #[.pointer (some ⟨r, 0, none⟩), strV s] w fun e w' => LineQ r st B L s w e w' := by
 have hW := words_p s w hl hg
 have HWS := Lib.hid (And.intro hN hw0)
 have hN0 : 0 < N := by
  rcases h : wordsP s with _ | ⟨x, l⟩
  · rw [h] at hw0; cases hw0
  · rw [h] at hN; simp at hN; omega
 rw [hN] at hW
 have HW := Lib.hid hW
 have HR := Lib.hid hr
 have HBAD := Lib.hid hbad
 have hrw := hr.blk.lt
 have HRW := Lib.hid hrw
 have hN0i : (0 : Int) < (N : Int) := by omega
 have hc : ((N : Int) == 2) = false := by simp; omega
 clear h2
 clear hW hr hg hN hw0 hbad hrw
 go_enter Tryz.func48, Tryz.ntmps48
 go_wp2_with fail
 refine wp_scope_jumps 0 (fun a' w' => a'.defers = [] /\ 4 < a'.tmps.size /\ Below r w w') (fun _ _ => 0) rfl ?first ?pass
 case first =>
  go_wp2_with fail
  (refine HW.out.mono ?_); rintro ev w1 ⟨v, rfl, hown, hb1⟩
  obtain ⟨hNN, bw, cw, rfl, hbw, hbw2, hcw, hq⟩ := wordsK hown (show 0 < (wordsP s).length by rw [HWS.out.1]; exact hN0)
  clear HW hNN
  have hq0 := hq 0 kText HWS.out.2
  skip
  go_upto_region 3 with fail
  obtain ⟨cf, hcf⟩ : ∃ cf, w1.heap.size = cf := ⟨_, rfl⟩
  obtain ⟨W2, hW2⟩ : ∃ W2, w1.alloc (.cells #[.bool true] 141) = W2 := ⟨_, rfl⟩
  have hb2 : Below w.heap.size w W2 := by rw [<- hW2]; exact bal hb1 _
  have p0 : W2.cell? ⟨bw, 0, none⟩ = some (.string ⟨#[116, 101, 120, 116]⟩) := by rw [<- hW2, World.cell?_alloc_lt _ _ _ hbw2]; exact hq0
  skip
  rw [hW2, hcf]
  have HB2 := Lib.hid hb2
  clear hq0 hq hW2 hcf hb1 hb2 hown hbw2 hbw
  go_wp2_with fail
  go_step3
  exact ⟨rfl, rfl, (by simp), HB2.out.mono (Nat.le_of_lt HRW.out)⟩
 case pass =>
  rintro a' w' ⟨hd, hs, hb⟩
  refine wp_seq (wp_skip (wp_seq (wp_region_lit (wpList_plain rfl fun K hK => ?_))))
  unfold Oper.wp execOp
  simp only [Sem.run_pure, Result.andThen_ok]
  refine hK _ _ (wpList_nil (wp_ret ?_))
  refine bodyPost_ret (v := .bool false) ((results_tmp rfl _ _ _).trans ?_) hd ⟨⟨false, rfl, fun _ => HBAD.out, fun h => by cases h⟩, hb⟩
  simp [Act.put, Act.eval, hs]
set_option maxRecDepth 100000 in
set_option maxHeartbeats 4000000 in
theorem line_bad3 (r st B N : Nat) (L : CoL) (s : Bs) (w : World) (hl : s.length <= 1073741824) (hg : Gl w) (h8 : 8 <= r) (hr : RAt w r L st) (hN : (wordsP s).length = N) (hlN : N <= 1073741825) (hw0 : (wordsP s)[0]? = some kType) (h2 : N ≠ 2)
  (hbad : stepV (st, L.code) s = none) :
  Calls Tryz.prog 48 #[.pointer (some ⟨r, 0, none⟩), strV s] w fun e w' => LineQ r st B L s w e w' := by
 have hW := words_p s w hl hg
 have HWS := Lib.hid (And.intro hN hw0)
 have hN0 : 0 < N := by
  rcases h : wordsP s with _ | ⟨x, l⟩
  · rw [h] at hw0; cases hw0
  · rw [h] at hN; simp at hN; omega
 rw [hN] at hW
 have HW := Lib.hid hW
 have HR := Lib.hid hr
 have HBAD := Lib.hid hbad
 have hrw := hr.blk.lt
 have HRW := Lib.hid hrw
 have hN0i : (0 : Int) < (N : Int) := by omega
 have hc : ((N : Int) == 2) = false := by simp; omega
 clear h2
 clear hW hr hg hN hw0 hbad hrw
 go_enter Tryz.func48, Tryz.ntmps48
 go_wp2_with fail
 refine wp_scope_jumps 0 (fun a' w' => a'.defers = [] /\ 4 < a'.tmps.size /\ Below r w w') (fun _ _ => 0) rfl ?first ?pass
 case first =>
  go_wp2_with fail
  (refine HW.out.mono ?_); rintro ev w1 ⟨v, rfl, hown, hb1⟩
  obtain ⟨hNN, bw, cw, rfl, hbw, hbw2, hcw, hq⟩ := wordsK hown (show 0 < (wordsP s).length by rw [HWS.out.1]; exact hN0)
  clear HW hNN
  have hq0 := hq 0 kType HWS.out.2
  skip
  go_upto_region 3 with fail
  obtain ⟨cf, hcf⟩ : ∃ cf, w1.heap.size = cf := ⟨_, rfl⟩
  obtain ⟨W2, hW2⟩ : ∃ W2, w1.alloc (.cells #[.bool true] 141) = W2 := ⟨_, rfl⟩
  have hb2 : Below w.heap.size w W2 := by rw [<- hW2]; exact bal hb1 _
  have p0 : W2.cell? ⟨bw, 0, none⟩ = some (.string ⟨#[116, 121, 112, 101]⟩) := by rw [<- hW2, World.cell?_alloc_lt _ _ _ hbw2]; exact hq0
  skip
  rw [hW2, hcf]
  have HB2 := Lib.hid hb2
  clear hq0 hq hW2 hcf hb1 hb2 hown hbw2 hbw
  go_wp2_with fail
  go_step3
  exact ⟨rfl, rfl, (by simp), HB2.out.mono (Nat.le_of_lt HRW.out)⟩
 case pass =>
  rintro a' w' ⟨hd, hs, hb⟩
  refine wp_seq (wp_skip (wp_seq (wp_region_lit (wpList_plain rfl fun K hK => ?_))))
  unfold Oper.wp execOp
  simp only [Sem.run_pure, Result.andThen_ok]
  refine hK _ _ (wpList_nil (wp_ret ?_))
  refine bodyPost_ret (v := .bool false) ((results_tmp rfl _ _ _).trans ?_) hd ⟨⟨false, rfl, fun _ => HBAD.out, fun h => by cases h⟩, hb⟩
  simp [Act.put, Act.eval, hs]
set_option maxRecDepth 100000 in
set_option maxHeartbeats 4000000 in
theorem line_bad4 (r st B N : Nat) (L : CoL) (s : Bs) (w : World) (hl : s.length <= 1073741824) (hg : Gl w) (h8 : 8 <= r) (hr : RAt w r L st) (hN : (wordsP s).length = N) (hlN : N <= 1073741825) (hw0 : (wordsP s)[0]? = some kCast) (h2 : N < 3)
  (hbad : stepV (st, L.code) s = none) :
  Calls Tryz.prog 48 #[.pointer (some ⟨r, 0, none⟩), strV s] w fun e w' => LineQ r st B L s w e w' := by
 have hW := words_p s w hl hg
 have HWS := Lib.hid (And.intro hN hw0)
 have hN0 : 0 < N := by
  rcases h : wordsP s with _ | ⟨x, l⟩
  · rw [h] at hw0; cases hw0
  · rw [h] at hN; simp at hN; omega
 rw [hN] at hW
 have HW := Lib.hid hW
 have HR := Lib.hid hr
 have HBAD := Lib.hid hbad
 have hrw := hr.blk.lt
 have HRW := Lib.hid hrw
 have hN0i : (0 : Int) < (N : Int) := by omega
 have hc : decide ((3 : Int) <= (N : Int)) = false := by simp; omega
 clear h2
 clear hW hr hg hN hw0 hbad hrw
 go_enter Tryz.func48, Tryz.ntmps48
 go_wp2_with fail
 refine wp_scope_jumps 0 (fun a' w' => a'.defers = [] /\ 4 < a'.tmps.size /\ Below r w w') (fun _ _ => 0) rfl ?first ?pass
 case first =>
  go_wp2_with fail
  (refine HW.out.mono ?_); rintro ev w1 ⟨v, rfl, hown, hb1⟩
  obtain ⟨hNN, bw, cw, rfl, hbw, hbw2, hcw, hq⟩ := wordsK hown (show 0 < (wordsP s).length by rw [HWS.out.1]; exact hN0)
  clear HW hNN
  have hq0 := hq 0 kCast HWS.out.2
  skip
  go_upto_region 3 with fail
  obtain ⟨cf, hcf⟩ : ∃ cf, w1.heap.size = cf := ⟨_, rfl⟩
  obtain ⟨W2, hW2⟩ : ∃ W2, w1.alloc (.cells #[.bool true] 141) = W2 := ⟨_, rfl⟩
  have hb2 : Below w.heap.size w W2 := by rw [<- hW2]; exact bal hb1 _
  have p0 : W2.cell? ⟨bw, 0, none⟩ = some (.string ⟨#[99, 97, 115, 116]⟩) := by rw [<- hW2, World.cell?_alloc_lt _ _ _ hbw2]; exact hq0
  skip
  rw [hW2, hcf]
  have HB2 := Lib.hid hb2
  clear hq0 hq hW2 hcf hb1 hb2 hown hbw2 hbw
  go_wp2_with fail
  go_step3
  exact ⟨rfl, rfl, (by simp), HB2.out.mono (Nat.le_of_lt HRW.out)⟩
 case pass =>
  rintro a' w' ⟨hd, hs, hb⟩
  refine wp_seq (wp_skip (wp_seq (wp_region_lit (wpList_plain rfl fun K hK => ?_))))
  unfold Oper.wp execOp
  simp only [Sem.run_pure, Result.andThen_ok]
  refine hK _ _ (wpList_nil (wp_ret ?_))
  refine bodyPost_ret (v := .bool false) ((results_tmp rfl _ _ _).trans ?_) hd ⟨⟨false, rfl, fun _ => HBAD.out, fun h => by cases h⟩, hb⟩
  simp [Act.put, Act.eval, hs]
set_option maxRecDepth 100000 in
set_option maxHeartbeats 4000000 in
theorem line_bad5 (r st B N : Nat) (L : CoL) (s : Bs) (w : World) (hl : s.length <= 1073741824) (hg : Gl w) (h8 : 8 <= r) (hr : RAt w r L st) (hN : (wordsP s).length = N) (hlN : N <= 1073741825) (hw0 : (wordsP s)[0]? = some kFn) (h2 : N < 4)
  (hbad : stepV (st, L.code) s = none) :
  Calls Tryz.prog 48 #[.pointer (some ⟨r, 0, none⟩), strV s] w fun e w' => LineQ r st B L s w e w' := by
 have hW := words_p s w hl hg
 have HWS := Lib.hid (And.intro hN hw0)
 have hN0 : 0 < N := by
  rcases h : wordsP s with _ | ⟨x, l⟩
  · rw [h] at hw0; cases hw0
  · rw [h] at hN; simp at hN; omega
 rw [hN] at hW
 have HW := Lib.hid hW
 have HR := Lib.hid hr
 have HBAD := Lib.hid hbad
 have hrw := hr.blk.lt
 have HRW := Lib.hid hrw
 have hN0i : (0 : Int) < (N : Int) := by omega
 have hc : decide ((4 : Int) <= (N : Int)) = false := by simp; omega
 clear h2
 clear hW hr hg hN hw0 hbad hrw
 go_enter Tryz.func48, Tryz.ntmps48
 go_wp2_with fail
 refine wp_scope_jumps 0 (fun a' w' => a'.defers = [] /\ 4 < a'.tmps.size /\ Below r w w') (fun _ _ => 0) rfl ?first ?pass
 case first =>
  go_wp2_with fail
  (refine HW.out.mono ?_); rintro ev w1 ⟨v, rfl, hown, hb1⟩
  obtain ⟨hNN, bw, cw, rfl, hbw, hbw2, hcw, hq⟩ := wordsK hown (show 0 < (wordsP s).length by rw [HWS.out.1]; exact hN0)
  clear HW hNN
  have hq0 := hq 0 kFn HWS.out.2
  skip
  go_upto_region 3 with fail
  obtain ⟨cf, hcf⟩ : ∃ cf, w1.heap.size = cf := ⟨_, rfl⟩
  obtain ⟨W2, hW2⟩ : ∃ W2, w1.alloc (.cells #[.bool true] 141) = W2 := ⟨_, rfl⟩
  have hb2 : Below w.heap.size w W2 := by rw [<- hW2]; exact bal hb1 _
  have p0 : W2.cell? ⟨bw, 0, none⟩ = some (.string ⟨#[102, 110]⟩) := by rw [<- hW2, World.cell?_alloc_lt _ _ _ hbw2]; exact hq0
  skip
  rw [hW2, hcf]
  have HB2 := Lib.hid hb2
  clear hq0 hq hW2 hcf hb1 hb2 hown hbw2 hbw
  go_wp2_with fail
  go_step3
  exact ⟨rfl, rfl, (by simp), HB2.out.mono (Nat.le_of_lt HRW.out)⟩
 case pass =>
  rintro a' w' ⟨hd, hs, hb⟩
  refine wp_seq (wp_skip (wp_seq (wp_region_lit (wpList_plain rfl fun K hK => ?_))))
  unfold Oper.wp execOp
  simp only [Sem.run_pure, Result.andThen_ok]
  refine hK _ _ (wpList_nil (wp_ret ?_))
  refine bodyPost_ret (v := .bool false) ((results_tmp rfl _ _ _).trans ?_) hd ⟨⟨false, rfl, fun _ => HBAD.out, fun h => by cases h⟩, hb⟩
  simp [Act.put, Act.eval, hs]
set_option maxRecDepth 100000 in
set_option maxHeartbeats 4000000 in
theorem line_bad6 (r st B N : Nat) (L : CoL) (s : Bs) (w : World) (hl : s.length <= 1073741824) (hg : Gl w) (h8 : 8 <= r) (hr : RAt w r L st) (hN : (wordsP s).length = N) (hlN : N <= 1073741825) (hw0 : (wordsP s)[0]? = some []) (h2 : N ≠ 4)
  (hbad : stepV (st, L.code) s = none) :
  Calls Tryz.prog 48 #[.pointer (some ⟨r, 0, none⟩), strV s] w fun e w' => LineQ r st B L s w e w' := by
 have hW := words_p s w hl hg
 have HWS := Lib.hid (And.intro hN hw0)
 have hN0 : 0 < N := by
  rcases h : wordsP s with _ | ⟨x, l⟩
  · rw [h] at hw0; cases hw0
  · rw [h] at hN; simp at hN; omega
 rw [hN] at hW
 have HW := Lib.hid hW
 have HR := Lib.hid hr
 have HBAD := Lib.hid hbad
 have hrw := hr.blk.lt
 have HRW := Lib.hid hrw
 have hN0i : (0 : Int) < (N : Int) := by omega
 have hc : ((N : Int) == 4) = false := by simp; omega
 clear h2
 clear hW hr hg hN hw0 hbad hrw
 go_enter Tryz.func48, Tryz.ntmps48
 go_wp2_with fail
 refine wp_scope_jumps 0 (fun a' w' => a'.defers = [] /\ 4 < a'.tmps.size /\ Below r w w') (fun _ _ => 0) rfl ?first ?pass
 case first =>
  go_wp2_with fail
  (refine HW.out.mono ?_); rintro ev w1 ⟨v, rfl, hown, hb1⟩
  obtain ⟨hNN, bw, cw, rfl, hbw, hbw2, hcw, hq⟩ := wordsK hown (show 0 < (wordsP s).length by rw [HWS.out.1]; exact hN0)
  clear HW hNN
  have hq0 := hq 0 [] HWS.out.2
  skip
  go_upto_region 3 with fail
  obtain ⟨cf, hcf⟩ : ∃ cf, w1.heap.size = cf := ⟨_, rfl⟩
  obtain ⟨W2, hW2⟩ : ∃ W2, w1.alloc (.cells #[.bool true] 141) = W2 := ⟨_, rfl⟩
  have hb2 : Below w.heap.size w W2 := by rw [<- hW2]; exact bal hb1 _
  have p0 : W2.cell? ⟨bw, 0, none⟩ = some (.string ⟨#[]⟩) := by rw [<- hW2, World.cell?_alloc_lt _ _ _ hbw2]; exact hq0
  skip
  rw [hW2, hcf]
  have HB2 := Lib.hid hb2
  clear hq0 hq hW2 hcf hb1 hb2 hown hbw2 hbw
  go_wp2_with fail
  go_step3
  exact ⟨rfl, rfl, (by simp), HB2.out.mono (Nat.le_of_lt HRW.out)⟩
 case pass =>
  rintro a' w' ⟨hd, hs, hb⟩
  refine wp_seq (wp_skip (wp_seq (wp_region_lit (wpList_plain rfl fun K hK => ?_))))
  unfold Oper.wp execOp
  simp only [Sem.run_pure, Result.andThen_ok]
  refine hK _ _ (wpList_nil (wp_ret ?_))
  refine bodyPost_ret (v := .bool false) ((results_tmp rfl _ _ _).trans ?_) hd ⟨⟨false, rfl, fun _ => HBAD.out, fun h => by cases h⟩, hb⟩
  simp [Act.put, Act.eval, hs]
set_option maxRecDepth 100000 in
set_option maxHeartbeats 4000000 in
theorem line_bad7 (r st B N : Nat) (L : CoL) (s : Bs) (x : Bs) (w : World) (hl : s.length <= 1073741824) (hg : Gl w) (h8 : 8 <= r) (hr : RAt w r L st) (hN : (wordsP s).length = N) (hlN : N <= 1073741825) (hw0 : (wordsP s)[0]? = some kFn) (h2 : 4 <= N) (hx : (wordsP s)[N - 3]? = some x) (hx2 : x ≠ [58])
  (hbad : stepV (st, L.code) s = none) :
  Calls Tryz.prog 48 #[.pointer (some ⟨r, 0, none⟩), strV s] w fun e w' => LineQ r st B L s w e w' := by
 have hW := words_p s w hl hg
 have HWS := Lib.hid (And.intro hN hw0)
 have hN0 : 0 < N := by
  rcases h : wordsP s with _ | ⟨x, l⟩
  · rw [h] at hw0; cases hw0
  · rw [h] at hN; simp at hN; omega
 rw [hN] at hW
 have HW := Lib.hid hW
 have HR := Lib.hid hr
 have HBAD := Lib.hid hbad
 have hrw := hr.blk.lt
 have HRW := Lib.hid hrw
 have hN0i : (0 : Int) < (N : Int) := by omega
 obtain ⟨a3, ha3⟩ : ∃ a, N - 3 = a := ⟨_, rfl⟩
 have hc : decide ((4 : Int) <= (N : Int)) = true := by simp; omega
 have e3 : IntKind.i64.wrap ((N : Int) - 3) = (a3 : Int) := by rw [IntWalk.i64_in _ ⟨by omega, by omega⟩]; omega
 have l3 : (a3 : Int) < (N : Int) := by omega
 have n3 : a3 < N := by omega
 have he : (x == [58]) = false := by simpa using hx2
 rw [ha3] at hx
 have HX := Lib.hid hx
 clear h2 hx hx2 ha3
 clear hW hr hg hN hw0 hbad hrw
 go_enter Tryz.func48, Tryz.ntmps48
 go_wp2_with fail
 refine wp_scope_jumps 0 (fun a' w' => a'.defers = [] /\ 4 < a'.tmps.size /\ Below r w w') (fun _ _ => 0) rfl ?first ?pass
 case first =>
  go_wp2_with fail
  (refine HW.out.mono ?_); rintro ev w1 ⟨v, rfl, hown, hb1⟩
  obtain ⟨hNN, bw, cw, rfl, hbw, hbw2, hcw, hq⟩ := wordsK hown (show 0 < (wordsP s).length by rw [HWS.out.1]; exact hN0)
  clear HW hNN
  have hq0 := hq 0 kFn HWS.out.2
  have hq1 := hq a3 x HX.out
  go_upto_region 3 with fail
  obtain ⟨cf, hcf⟩ : ∃ cf, w1.heap.size = cf := ⟨_, rfl⟩
  obtain ⟨W2, hW2⟩ : ∃ W2, w1.alloc (.cells #[.bool true] 141) = W2 := ⟨_, rfl⟩
  have hb2 : Below w.heap.size w W2 := by rw [<- hW2]; exact bal hb1 _
  have p0 : W2.cell? ⟨bw, 0, none⟩ = some (.string ⟨#[102, 110]⟩) := by rw [<- hW2, World.cell?_alloc_lt _ _ _ hbw2]; exact hq0
  have p1 : W2.cell? ⟨bw, a3, none⟩ = some (.string ⟨x.toArray⟩) := by rw [<- hW2, World.cell?_alloc_lt _ _ _ hbw2]; exact hq1
  clear hq1
  rw [hW2, hcf]
  have HB2 := Lib.hid hb2
  clear hq0 hq hW2 hcf hb1 hb2 hown hbw2 hbw
  go_wp2_with fail
  go_step3
  exact ⟨rfl, rfl, (by simp), HB2.out.mono (Nat.le_of_lt HRW.out)⟩
 case pass =>
  rintro a' w' ⟨hd, hs, hb⟩
  refine wp_seq (wp_skip (wp_seq (wp_region_lit (wpList_plain rfl fun K hK => ?_))))
  unfold Oper.wp execOp
  simp only [Sem.run_pure, Result.andThen_ok]
  refine hK _ _ (wpList_nil (wp_ret ?_))
  refine bodyPost_ret (v := .bool false) ((results_tmp rfl _ _ _).trans ?_) hd ⟨⟨false, rfl, fun _ => HBAD.out, fun h => by cases h⟩, hb⟩
  simp [Act.put, Act.eval, hs]
set_option maxRecDepth 100000 in
set_option maxHeartbeats 4000000 in
theorem line_bad8 (r st B N : Nat) (L : CoL) (s : Bs) (w : World) (hl : s.length <= 1073741824) (hg : Gl w) (h8 : 8 <= r) (hr : RAt w r L st) (hN : (wordsP s).length = N) (hlN : N <= 1073741825) (hw0 : (wordsP s)[0]? = some []) (h2 : N = 4) (hL : L.fns = [])
  (hbad : stepV (st, L.code) s = none) :
  Calls Tryz.prog 48 #[.pointer (some ⟨r, 0, none⟩), strV s] w fun e w' => LineQ r st B L s w e w' := by
 have hW := words_p s w hl hg
 have HWS := Lib.hid (And.intro hN hw0)
 have hN0 : 0 < N := by
  rcases h : wordsP s with _ | ⟨x, l⟩
  · rw [h] at hw0; cases hw0
  · rw [h] at hN; simp at hN; omega
 rw [hN] at hW
 have HW := Lib.hid hW
 have HR := Lib.hid hr
 have HBAD := Lib.hid hbad
 have hrw := hr.blk.lt
 have HRW := Lib.hid hrw
 have hN0i : (0 : Int) < (N : Int) := by omega
 subst h2
 obtain ⟨AF, cF, hfv⟩ : ∃ AF cF, L.fv = .slice AF 0 cF := by
  obtain ⟨A, c, h, _⟩ := own_shape (hr.own.own (rowF L) (rowF_in L))
  have h' : L.fv = .slice A L.fns.length c := h
  rw [hL] at h'
  exact ⟨A, c, h'⟩
 have HFV := Lib.hid hfv
 clear hfv hL
 clear hW hr hg hN hw0 hbad hrw
 go_enter Tryz.func48, Tryz.ntmps48
 go_wp2_with fail
 refine wp_scope_jumps 0 (fun a' w' => a'.defers = [] /\ 4 < a'.tmps.size /\ Below r w w') (fun _ _ => 0) rfl ?first ?pass
 case first =>
  go_wp2_with fail
  (refine HW.out.mono ?_); rintro ev w1 ⟨v, rfl, hown, hb1⟩
  obtain ⟨hNN, bw, cw, rfl, hbw, hbw2, hcw, hq⟩ := wordsK hown (show 0 < (wordsP s).length by rw [HWS.out.1]; exact hN0)
  clear HW hNN
  have hq0 := hq 0 [] HWS.out.2
  skip
  go_upto_region 3 with fail
  obtain ⟨cf, hcf⟩ : ∃ cf, w1.heap.size = cf := ⟨_, rfl⟩
  obtain ⟨W2, hW2⟩ : ∃ W2, w1.alloc (.cells #[.bool true] 141) = W2 := ⟨_, rfl⟩
  have hb2 : Below w.heap.size w W2 := by rw [<- hW2]; exact bal hb1 _
  have p0 : W2.cell? ⟨bw, 0, none⟩ = some (.string ⟨#[]⟩) := by rw [<- hW2, World.cell?_alloc_lt _ _ _ hbw2]; exact hq0
  have yF : W2.cell? ⟨r, 0, none⟩ = some (.slice AF 0 cF) := by rw [<- HFV.out]; exact ((HR.out.grow hb2).blk.cell 0).trans rfl
  rw [hW2, hcf]
  have HB2 := Lib.hid hb2
  clear hq0 hq hW2 hcf hb1 hb2 hown hbw2 hbw
  go_wp2_with fail
  go_step3
  exact ⟨rfl, rfl, (by simp), HB2.out.mono (Nat.le_of_lt HRW.out)⟩
 case pass =>
  rintro a' w' ⟨hd, hs, hb⟩
  refine wp_seq (wp_skip (wp_seq (wp_region_lit (wpList_plain rfl fun K hK => ?_))))
  unfold Oper.wp execOp
  simp only [Sem.run_pure, Result.andThen_ok]
  refine hK _ _ (wpList_nil (wp_ret ?_))
  refine bodyPost_ret (v := .bool false) ((results_tmp rfl _ _ _).trans ?_) hd ⟨⟨false, rfl, fun _ => HBAD.out, fun h => by cases h⟩, hb⟩
  simp [Act.put, Act.eval, hs]
set_option maxRecDepth 100000 in
set_option maxHeartbeats 4000000 in
theorem line_bad9 (r st B N : Nat) (L : CoL) (s : Bs) (x0 : Bs) (w : World) (hl : s.length <= 1073741824) (hg : Gl w) (h8 : 8 <= r) (hr : RAt w r L st) (hN : (wordsP s).length = N) (hlN : N <= 1073741825) (hw0 : (wordsP s)[0]? = some x0) (hk0 : x0 ≠ kNum) (hk1 : x0 ≠ kText) (hk2 : x0 ≠ kType) (hk3 : x0 ≠ kCast) (hk4 : x0 ≠ kFn) (hk5 : x0 ≠ [])
  (hbad : stepV (st, L.code) s = none) :
  Calls Tryz.prog 48 #[.pointer (some ⟨r, 0, none⟩), strV s] w fun e w' => LineQ r st B L s w e w' := by
 have hW := words_p s w hl hg
 have HWS := Lib.hid (And.intro hN hw0)
 have hN0 : 0 < N := by
  rcases h : wordsP s with _ | ⟨x, l⟩
  · rw [h] at hw0; cases hw0
  · rw [h] at hN; simp at hN; omega
 rw [hN] at hW
 have HW := Lib.hid hW
 have HR := Lib.hid hr
 have HBAD := Lib.hid hbad
 have hrw := hr.blk.lt
 have HRW := Lib.hid hrw
 have hN0i : (0 : Int) < (N : Int) := by omega
 have g0 : (x0 == [110, 117, 109]) = false := by simpa [kNum] using hk0
 have g1 : (x0 == [116, 101, 120, 116]) = false := by simpa [kText] using hk1
 have g2 : (x0 == [116, 121, 112, 101]) = false := by simpa [kType] using hk2
 have g3 : (x0 == [99, 97, 115, 116]) = false := by simpa [kCast] using hk3
 have g4 : (x0 == [102, 110]) = false := by simpa [kFn] using hk4
 have g5 : (x0 == []) = false := by simpa using hk5
 clear hk0 hk1 hk2 hk3 hk4 hk5
 clear hW hr hg hN hw0 hbad hrw
 go_enter Tryz.func48, Tryz.ntmps48
 go_wp2_with fail
 refine wp_scope_jumps 0 (fun a' w' => a'.defers = [] /\ 4 < a'.tmps.size /\ Below r w w') (fun _ _ => 0) rfl ?first ?pass
 case first =>
  go_wp2_with fail
  (refine HW.out.mono ?_); rintro ev w1 ⟨v, rfl, hown, hb1⟩
  obtain ⟨hNN, bw, cw, rfl, hbw, hbw2, hcw, hq⟩ := wordsK hown (show 0 < (wordsP s).length by rw [HWS.out.1]; exact hN0)
  clear HW hNN
  have hq0 := hq 0 x0 HWS.out.2
  skip
  go_upto_region 3 with fail
  obtain ⟨cf, hcf⟩ : ∃ cf, w1.heap.size = cf := ⟨_, rfl⟩
  obtain ⟨W2, hW2⟩ : ∃ W2, w1.alloc (.cells #[.bool true] 141) = W2 := ⟨_, rfl⟩
  have hb2 : Below w.heap.size w W2 := by rw [<- hW2]; exact bal hb1 _
  have p0 : W2.cell? ⟨bw, 0, none⟩ = some (.string ⟨x0.toArray⟩) := by rw [<- hW2, World.cell?_alloc_lt _ _ _ hbw2]; exact hq0
  skip
  rw [hW2, hcf]
  have HB2 := Lib.hid hb2
  clear hq0 hq hW2 hcf hb1 hb2 hown hbw2 hbw
  go_wp2_with fail
  go_step3
  exact ⟨rfl, rfl, (by simp), HB2.out.mono (Nat.le_of_lt HRW.out)⟩
 case pass =>
  rintro a' w' ⟨hd, hs, hb⟩
  refine wp_seq (wp_skip (wp_seq (wp_region_lit (wpList_plain rfl fun K hK => ?_))))
  unfold Oper.wp execOp
  simp only [Sem.run_pure, Result.andThen_ok]
  refine hK _ _ (wpList_nil (wp_ret ?_))
  refine bodyPost_ret (v := .bool false) ((results_tmp rfl _ _ _).trans ?_) hd ⟨⟨false, rfl, fun _ => HBAD.out, fun h => by cases h⟩, hb⟩
  simp [Act.put, Act.eval, hs]
end Go.Proofs.YtobplngonkdbpaaGreatDoor.D
/- CfI -/
namespace Go.Proofs.YtobplngonkdbpaaGreatDoor.D
open Go.RowKit
open Go.Proofs.YtobplngonkdbpaaGreatDoor.B
set_option linter.unusedVariables false
set_option linter.unusedSimpArgs false
theorem joinC_ge (c : UInt8) : ∀ ws : List Bs, ws.length <= (joinC c ws).length + 1 /\ ∀ x ∈ ws, x.length <= (joinC c ws).length
 | [] => ⟨by simp, fun x hx => by cases hx⟩
 | [w] => ⟨by simp, fun x hx => by rw [List.mem_singleton.1 hx]; exact Nat.le_refl _⟩
 | w :: v :: r => by
  obtain ⟨h1, h2⟩ := joinC_ge c (v :: r)
  rw [joinC]
  refine ⟨by simp only [List.length_cons, List.length_append] at h1 ⊢; omega, fun x hx => ?_⟩
  rcases List.mem_cons.1 hx with rfl | hx
  · simp only [List.length_append]; omega
  ·
   have := h2 x hx
   simp only [List.length_append, List.length_cons]; omega
theorem words_ge (s : Bs) : (wordsP s).length <= s.length + 1 /\ ∀ x ∈ wordsP s, x.length <= s.length := by
 have h := joinC_ge 32 (wordsP s)
 rw [(wordsP_join _ s (Nat.le_refl _)).1] at h
 exact h
theorem rd_no {st : Nat × Cod} {s : Bs} (h : rdItem (wordsP s) = none) : stepV st s = none := by rw [stepV_words, h]
theorem line_c (r st B : Nat) (L : CoL) (s : Bs) (w : World) (hl : s.length <= 1073741824) (hg : Gl w) (h8 : 8 <= r) (hr : RAt w r L st) (hB : LB L B) (hBb : B <= 1073741824) :
  Calls Tryz.prog 48 #[.pointer (some ⟨r, 0, none⟩), strV s] w fun e w' => LineQ r st B L s w e w' := by
 obtain ⟨h1, h2⟩ := words_ge s
 have h3 : ∀ x ∈ wordsP s, x.length <= 1073741824 := fun x hx => Nat.le_trans (h2 x hx) hl
 have h4 : (wordsP s).length <= 1073741825 := by omega
 rcases hws : wordsP s with _ | ⟨x0, rest⟩
 · exact absurd hws (wordsP_join _ s (Nat.le_refl _)).2
 have h0 : (wordsP s)[0]? = some x0 := by rw [hws]; rfl
 by_cases k0 : x0 = kNum
 ·
  subst k0
  rcases rest with _ | ⟨a, _ | ⟨b, rest⟩⟩
  · exact line_bad1 r st B _ L s w hl hg h8 hr rfl h4 h0 (by rw [hws]; decide) (rd_no (by rw [hws]; rfl))
  · exact line_num r st B L s a w hl hg h8 hr hB hBb hws (h3 a (by rw [hws]; simp))
  · exact line_bad1 r st B _ L s w hl hg h8 hr rfl h4 h0 (by rw [hws]; simp) (rd_no (by rw [hws]; rfl))
 by_cases k1 : x0 = kText
 ·
  subst k1
  rcases rest with _ | ⟨a, _ | ⟨b, rest⟩⟩
  · exact line_bad2 r st B _ L s w hl hg h8 hr rfl h4 h0 (by rw [hws]; decide) (rd_no (by rw [hws]; rfl))
  · exact line_text r st B L s a w hl hg h8 hr hB hBb hws (h3 a (by rw [hws]; simp))
  · exact line_bad2 r st B _ L s w hl hg h8 hr rfl h4 h0 (by rw [hws]; simp) (rd_no (by rw [hws]; rfl))
 by_cases k2 : x0 = kType
 ·
  subst k2
  rcases rest with _ | ⟨a, _ | ⟨b, rest⟩⟩
  · exact line_bad3 r st B _ L s w hl hg h8 hr rfl h4 h0 (by rw [hws]; decide) (rd_no (by rw [hws]; rfl))
  · exact line_type r st B L s a w hl hg h8 hr hB hBb hws (h3 a (by rw [hws]; simp))
  · exact line_bad3 r st B _ L s w hl hg h8 hr rfl h4 h0 (by rw [hws]; simp) (rd_no (by rw [hws]; rfl))
 by_cases k3 : x0 = kCast
 ·
  subst k3
  rcases rest with _ | ⟨a, _ | ⟨b, rest⟩⟩
  · exact line_bad4 r st B _ L s w hl hg h8 hr rfl h4 h0 (by rw [hws]; decide) (rd_no (by rw [hws]; rfl))
  · exact line_bad4 r st B _ L s w hl hg h8 hr rfl h4 h0 (by rw [hws]; simp) (rd_no (by rw [hws]; rfl))
  · exact line_cast r st B L s a b rest w hl hg h8 hr hB hBb hws h3 h4
 by_cases k4 : x0 = kFn
 ·
  subst k4
  have hrd : rdItem (wordsP s) = rdFn rest := by
   rw [hws]; unfold rdItem; simp only; rw [if_neg (by decide), if_neg (by decide), if_neg (by decide), if_neg (by decide), if_pos trivial]
  by_cases h5 : rest.length < 3
  · exact line_bad5 r st B _ L s w hl hg h8 hr rfl h4 h0 (by rw [hws]; simp; omega) (rd_no (by rw [hrd]; unfold rdFn; rw [if_pos (.inl h5)]))
  ·
   have h6 := three rest (by omega)
   obtain ⟨y, hy⟩ : ∃ y, rest[rest.length - 3]? = some y := ⟨_, List.getElem?_eq_getElem (by omega)⟩
   have hy2 : rest.getD (rest.length - 3) [] = y := by rw [List.getD_eq_getElem?_getD, hy]; rfl
   by_cases h7 : y = [58]
   ·
    rw [hy2, h7] at h6
    exact line_fn r st B L s _ _ _ w hl hg h8 hr hB hBb (by rw [hws, <- h6]) h3 h4
   ·
    exact line_bad7 r st B _ L s y w hl hg h8 hr rfl h4 h0 (by rw [hws]; simp; omega) (by rw [hws, List.length_cons, show rest.length + 1 - 3 = (rest.length - 3) + 1 by omega, List.getElem?_cons_succ]; exact hy) h7
     (rd_no (by rw [hrd]; unfold rdFn; rw [if_pos (.inr (by rw [hy]; intro e; injection e with e; exact h7 e))]))
 by_cases k5 : x0 = []
 ·
  subst k5
  rcases rest with _ | ⟨o, _ | ⟨a, _ | ⟨b, _ | ⟨c, rest⟩⟩⟩⟩
  · exact line_bad6 r st B _ L s w hl hg h8 hr rfl h4 h0 (by rw [hws]; decide) (rd_no (by rw [hws]; rfl))
  · exact line_bad6 r st B _ L s w hl hg h8 hr rfl h4 h0 (by rw [hws]; simp) (rd_no (by rw [hws]; rfl))
  · exact line_bad6 r st B _ L s w hl hg h8 hr rfl h4 h0 (by rw [hws]; simp) (rd_no (by rw [hws]; rfl))
  ·
   rcases List.eq_nil_or_concat L.fns with hL | ⟨F0, g, hL⟩
   ·
    refine line_bad8 r st B _ L s w hl hg h8 hr rfl h4 h0 (by rw [hws]; rfl) hL ?_
    rw [stepV_words, hws]
    rcases hit : rdItem [[], o, a, b] with _ | it
    · rfl
    ·
     have hins : isIns it = true := by
      have : rdItem [[], o, a, b] = insIt o a b := by unfold rdItem insIt; simp only; rw [if_neg (by decide), if_neg (by decide), if_neg (by decide), if_neg (by decide), if_neg (by decide), if_pos trivial]; (try rfl)
      rw [this] at hit
      unfold insIt at hit
      rcases h1 : opV o with _ | x
      · rw [h1] at hit; cases hit
      rcases h2 : numV a with _ | y
      · rw [h1, h2] at hit; cases hit
      rcases h3 : numV b with _ | z
      · rw [h1, h2, h3] at hit; cases hit
      rw [h1, h2, h3] at hit
      injection hit with hit
      rw [<- hit]; rfl
     simp only
     unfold stepI
     rw [if_neg]
     rintro ⟨h, _⟩
     exact h hins (by simp [CoL.code, hL])
   · exact line_ins r st B L F0 g s o a b w hl hg h8 hr hB hBb hws (by simpa using hL) h3
  · exact line_bad6 r st B _ L s w hl hg h8 hr rfl h4 h0 (by rw [hws]; simp) (rd_no (by rw [hws]; rfl))
 ·
  exact line_bad9 r st B _ L s x0 w hl hg h8 hr rfl h4 h0 k0 k1 k2 k3 k4 k5 (rd_no (by
   rw [hws]; unfold rdItem; simp only; rw [if_neg k0, if_neg k1, if_neg k2, if_neg k3, if_neg k4, if_neg k5]))
end Go.Proofs.YtobplngonkdbpaaGreatDoor.D
/- CfJ -/
namespace Go.Proofs.YtobplngonkdbpaaGreatDoor.D
open Go.RowKit
open Go.Proofs.YtobplngonkdbpaaGreatDoor.B
set_option linter.unusedVariables false
set_option linter.unusedSimpArgs false
def CoL.nil : CoL := ⟨[], [], [], [], [], .slice none 0 0, .slice none 0 0, .slice none 0 0, .slice none 0 0, .slice none 0 0⟩
def nilV : Array Value := #[.slice none 0 0, .slice none 0 0, .slice none 0 0, .slice none 0 0, .slice none 0 0]
/-- What Read answers. -/
def ReadQ (t : Bs) (w : World) (e : Ending) (w' : World) : Prop :=
 Below w.heap.size w w' /\ ((∃ (k : Nat) (c : Cod) (L : CoL), readV t = (some (k, c), 0) /\ L.code = c /\ e = .returned (.tuple #[.agg L.vals.toArray, .int .i64 0, .int .i64 0]) /\ Own w' w.heap.size L.rws) \/
  (∃ n : Nat, readV t = (none, n) /\ e = .returned (.tuple #[.agg nilV, .int .i64 60, .int .i64 n])))
theorem lb_nil : LB .nil 0 := ⟨Nat.le_refl 0, Nat.le_refl 0, Nat.le_refl 0, Nat.le_refl 0, Nat.le_refl 0, fun g hg => by cases hg⟩
theorem own_nil (w : World) (base : Nat) : Own w base CoL.nil.rws := by
 refine ⟨fun r hr => ?_, ?_⟩
 ·
  simp only [rws_eq, rowR, CoL.nil, List.flatMap_nil, List.map_nil, List.append_nil, List.mem_cons, List.not_mem_nil, or_false] at hr
  rcases hr with rfl | rfl | rfl | rfl | rfl <;> exact World.ownsRow_nil _ _ _ _
 ·
  simp only [rws_eq, rowR, CoL.nil, List.flatMap_nil, List.map_nil, List.append_nil]
  simp [rowF, rowC, rowN, rowT, rowY, Ap, Value.ownBlock]
theorem results_cell_tmp2 {fn : Func} {p u v : Tmp} {ty : TypeId} (h : fn.results = #[.cell p ty, .tmp u, .tmp v]) (tmps : Array Value) (P : Program) (w : World) (g : Nat) (cs : Array Value)
  (hp : tmps.getD p undef = .pointer (some ⟨g, 0, none⟩)) (hload : (loadVar ty ⟨g, 0, none⟩).run P w = .ok (.agg cs) w) :
  (results fn tmps).run P w = .ok (.tuple #[.agg cs, tmps.getD u undef, tmps.getD v undef]) w := by
 have hp' : tmps[p]?.getD undef = .pointer (some ⟨g, 0, none⟩) := by simpa using hp
 simp [results, h, hp', asAddr, hload]
set_option maxRecDepth 100000 in
set_option maxHeartbeats 4000000 in
theorem read_c (t : Bs) (w : World) (hl : t.length <= 1073741824) (hg : Gl w) :
  Calls Tryz.prog 17 #[strV t] w fun e w' => ReadQ t w e w' := by
 have HG := Lib.hid hg
 have h8 : 8 <= w.heap.size := hg.hs
 clear hg
 obtain ⟨b2, hb2⟩ : ∃ b, w.heap.size = b := ⟨_, rfl⟩
 obtain ⟨W1, hW1⟩ : ∃ W1, (w.alloc (.cells #[.slice none 0 0, .slice none 0 0, .slice none 0 0, .slice none 0 0, .slice none 0 0] 27)).alloc (.cells #[.slice none 0 0, .slice none 0 0, .slice none 0 0, .slice none 0 0, .slice none 0 0, .int .i64 0] 106) = W1 := ⟨_, rfl⟩
 have hbl : Below w.heap.size w W1 := by rw [<- hW1]; exact bal (bal b0 _) _
 have k2 : Blk W1 b2 27 nilV := by rw [<- hW1, <- hb2]; exact (Blk.new _ _ _).alloc _
 have kr : RAt W1 (b2 + 1) .nil 0 := by
  refine ⟨?_, own_nil _ _⟩
  rw [<- hW1, <- hb2]
  have := Blk.new (w.alloc (.cells #[.slice none 0 0, .slice none 0 0, .slice none 0 0, .slice none 0 0, .slice none 0 0] 27)) 106 #[.slice none 0 0, .slice none 0 0, .slice none 0 0, .slice none 0 0, .slice none 0 0, .int .i64 0]
  simp only [World.size_alloc] at this
  exact this
 have H1 := Lib.hid (And.intro hbl (And.intro k2 (And.intro kr (And.intro hb2 h8))))
 clear k2 kr
 unfold strV
 go_enter Tryz.func17, Tryz.ntmps17
 go_upto_region 2 with fail
 clear hb2 hW1 h8 hbl
 go_wp2_with fail
 go_loopg [0, 6] t.length (fun gg u v wr => ∃ (rest : Bs) (L : CoL) (st B : Nat), gg = rest.length /\ u = .string ⟨rest.toArray⟩ /\ v = .int .i64 (B + 1 : Nat) /\ Hid (B + rest.length <= t.length /\ RAt wr (b2 + 1) L st /\ LB L B /\ runV rest (st, L.code) (B + 1) = readV t /\ Below (b2 + 1) W1 wr))
 case atStart => exact ⟨t, .nil, 0, 0, rfl, rfl, rfl, Lib.hid ⟨by omega, H1.out.2.2.1, lb_nil, rfl, Below.refl _ _⟩⟩
 case round =>
  obtain ⟨rest, L, st, B, rfl, rfl, rfl, HR⟩ := hrel
  have hz := str_size rest
  have hB := HR.out.1
  have hbW : Below w.heap.size w wr := H1.out.1.trans (HR.out.2.2.2.2.mono (by have := H1.out.2.2.2.1; omega))
  have HBW := Lib.hid hbW
  have k2 : Blk wr b2 27 nilV := H1.out.2.1.below HR.out.2.2.2.2 (by omega)
  by_cases hr0 : rest = []
  ·
   subst hr0
   obtain ⟨A1, c1, e1, _⟩ := own_shape (HR.out.2.1.own.own (rowF L) (rowF_in L))
   obtain ⟨A2, c2, e2, _⟩ := own_shape (HR.out.2.1.own.own (rowC L) (rowC_in L))
   obtain ⟨A3, c3, e3, _⟩ := own_shape (HR.out.2.1.own.own (rowN L) (rowN_in L))
   obtain ⟨A4, c4, e4, _⟩ := own_shape (HR.out.2.1.own.own (rowT L) (rowT_in L))
   obtain ⟨A5, c5, e5, _⟩ := own_shape (HR.out.2.1.own.own (rowY L) (rowY_in L))
   have e1' : L.fv = .slice A1 L.fns.length c1 := e1
   have e2' : L.cv = .slice A2 L.casts.length c2 := e2
   have e3' : L.nv = .slice A3 L.nums.length c3 := e3
   have e4' : L.tv = .slice A4 L.texts.length c4 := e4
   have e5' : L.yv = .slice A5 L.types.length c5 := e5
   have kr := HR.out.2.1.blk
   rw [e1', e2', e3', e4', e5'] at kr
   have HE := Lib.hid (show L.vals.toArray = #[.slice A1 L.fns.length c1, .slice A2 L.casts.length c2, .slice A3 L.nums.length c3, .slice A4 L.texts.length c4, .slice A5 L.types.length c5] by unfold CoL.vals; rw [e1', e2', e3', e4', e5'])
   have x0 : wr.cell? ⟨b2 + 1, 0, none⟩ = some (.slice A1 L.fns.length c1) := (kr.cell 0).trans rfl
   have x1 : wr.cell? ⟨b2 + 1, 1, none⟩ = some (.slice A2 L.casts.length c2) := (kr.cell 1).trans rfl
   have x2 : wr.cell? ⟨b2 + 1, 2, none⟩ = some (.slice A3 L.nums.length c3) := (kr.cell 2).trans rfl
   have x3 : wr.cell? ⟨b2 + 1, 3, none⟩ = some (.slice A4 L.texts.length c4) := (kr.cell 3).trans rfl
   have x4 : wr.cell? ⟨b2 + 1, 4, none⟩ = some (.slice A5 L.types.length c5) := (kr.cell 4).trans rfl
   clear e1 e2 e3 e4 e5 e1' e2' e3' e4' e5' kr hbW
   go_wp2_with (refine wpList_store_row rfl 27 (.tmp 2) (.tmp 37) rfl b2 #[.slice A1 L.fns.length c1, .slice A2 L.casts.length c2, .slice A3 L.nums.length c3, .slice A4 L.texts.length c4, .slice A5 L.types.length c5] rfl rfl 27 nilV k2 (by kernel_rfl) rfl (by kernel_rfl) ?_)
   (try simp only [Exit.inBlock, Exit.then])
   refine bodyPost_ret (results_cell_tmp2 rfl _ _ _ b2 #[.slice A1 L.fns.length c1, .slice A2 L.casts.length c2, .slice A3 L.nums.length c3, .slice A4 L.texts.length c4, .slice A5 L.types.length c5] rfl (run_loadVar_row _ b2 27 _ _ (0, 0) _ (setRow_heap _ _ _ _ _ _ k2) Tryz.underlying27 rfl (by kernel_rfl))) rfl ⟨?_, .inl ⟨st, L.code, L, ?_, rfl, by rw [HE.out]; rfl, ?_⟩⟩
   · exact below_setRow HBW.out (by have := H1.out.2.2.2.1; omega) _
   ·
    have h := HR.out.2.2.2.1
    rw [runV_nil] at h
    exact h.symm
   ·
    have h := HR.out.2.1.own
    refine ⟨fun x hx => own_base (own_but (cf := b2) (h.own x hx) (but_setRow (C := fun k => k = b2) (But.refl _ wr) (.inl rfl) _) (by omega)) (by have := H1.out.2.2.2.1; omega), h.ap⟩
  ·
   have hpos : 0 < rest.length := List.length_pos_iff.2 hr0
   have hpi : (0 : Int) < (rest.length : Int) := by omega
   obtain ⟨m, hm⟩ := (HG.out.on HBW.out).maxl
   have hC := Tryz.strings_Cut ⟨rest.toArray⟩ ⟨#[10]⟩ m wr (by rw [hz]; omega) hm
   rw [show (⟨rest.toArray⟩ : ByteArray).data.toList = rest from rfl, show (⟨#[10]⟩ : ByteArray).data.toList = [10] from rfl, cut_line] at hC
   have HRN := Lib.hid hr0
   clear hr0 hm hbW
   rcases hln : lineC rest with _ | ⟨l, r'⟩
   ·
    rw [hln] at hC
    have HC := Lib.hid hC
    have HLN := Lib.hid hln
    clear hC hln
    go_wp2_with fail
    (refine HC.out.mono ?_); rintro ev w2 ⟨rfl, nq, rfl⟩
    have k3 := k2.drewN nq
    go_wp2_with (refine wpList_store_row rfl 27 (.tmp 2) (.tmp 31) rfl b2 nilV rfl rfl 27 nilV k3 (by kernel_rfl) rfl (by kernel_rfl) ?_)
    (try simp only [Exit.inBlock, Exit.then])
    refine bodyPost_ret (results_cell_tmp2 rfl _ _ _ b2 nilV rfl (run_loadVar_row _ b2 27 _ _ (0, 0) _ (setRow_heap _ _ _ _ _ _ k3) Tryz.underlying27 rfl (by kernel_rfl))) rfl ⟨?_, .inr ⟨B + 1, ?_, rfl⟩⟩
    · exact below_setRow (bdr HBW.out nq) (by have := H1.out.2.2.2.1; omega) _
    ·
     have h := HR.out.2.2.2.1
     rw [runV_none HRN.out HLN.out] at h
     exact h.symm
   ·
    rw [hln] at hC
    have hlen := lineC_len rest _ hln
    have heq := (lineC_eq rest _ hln).1
    have hll : l.length <= 1073741824 := by
     have := congrArg List.length heq
     simp only [List.length_append, List.length_cons] at this
     omega
    have HC := Lib.hid hC
    have HLN := Lib.hid (And.intro hln hlen)
    have HLC := Lib.hid (fun nq => line_c (b2 + 1) st B L l (wr.drewN nq) hll ((HG.out.on HBW.out).on (bdr b0 nq)) (by have := H1.out.2.2.2.2; have := H1.out.2.2.2.1; omega) (HR.out.2.1.grow (bdr b0 nq)) HR.out.2.2.1 (by omega))
    clear hC hln hlen heq
    unfold strV at HLC
    go_wp2_with fail
    (refine HC.out.mono ?_); rintro ev w2 ⟨rfl, nq, rfl⟩
    go_wp2_with fail
    (refine (HLC.out nq).mono ?_); rintro ev w3 ⟨⟨ok, rfl, ho1, ho2⟩, hb3⟩
    have HO := Lib.hid (And.intro ho1 (And.intro ho2 hb3))
    clear ho1 ho2 hb3
    cases ok with
    | false =>
     have k3 : Blk w3 b2 27 nilV := (k2.drewN nq).below HO.out.2.2 (by omega)
     go_wp2_with (refine wpList_store_row rfl 27 (.tmp 2) (.tmp 31) rfl b2 nilV rfl rfl 27 nilV k3 (by kernel_rfl) rfl (by kernel_rfl) ?_)
     (try simp only [Exit.inBlock, Exit.then])
     refine bodyPost_ret (results_cell_tmp2 rfl _ _ _ b2 nilV rfl (run_loadVar_row _ b2 27 _ _ (0, 0) _ (setRow_heap _ _ _ _ _ _ k3) Tryz.underlying27 rfl (by kernel_rfl))) rfl ⟨?_, .inr ⟨B + 1, ?_, rfl⟩⟩
     · exact below_setRow ((bdr HBW.out nq).trans (HO.out.2.2.mono (by have := H1.out.2.2.2.1; omega))) (by have := H1.out.2.2.2.1; omega) _
     ·
      have h := HR.out.2.2.2.1
      rw [runV_some HLN.out.1, HO.out.1 (by first | rfl | trivial)] at h
      exact h.symm
    | true =>
     obtain ⟨L', st', hs1, hs2, hs3⟩ := HO.out.2.1 rfl
     have HS := Lib.hid (And.intro hs1 (And.intro hs2 hs3))
     clear hs1 hs2 hs3
     go_wp2_with fail
     go_roundg r'.length
     case measure => exact HLN.out.2
     case rel =>
      refine ⟨r', L', st', B + 1, rfl, rfl, by go_num, Lib.hid ⟨?_, HS.out.2.1, HS.out.2.2, ?_, ?_⟩⟩
      ·
       have : r'.length < rest.length := HLN.out.2
       omega
      ·
       have h := HR.out.2.2.2.1
       rw [runV_some HLN.out.1, HS.out.1] at h
       exact h
      · exact (below_drewN HR.out.2.2.2.2 nq).trans HO.out.2.2
end Go.Proofs.YtobplngonkdbpaaGreatDoor.D
