/- LabelTells returns true, whatever the sites, the blame, the rule. -/
import Derived.Test.YthonnpjlkcjoeaaDoorLabelL
namespace Go.Proofs.YthonnpjlkcjoeaaDoor.La
open Go.RowKit Go.Proofs.YthonnpjlkcjoeaaDoor.B
set_option linter.unusedSimpArgs false
set_option linter.unusedVariables false

theorem text_no (l : List Site) (A : Option Addr) (c : Nat) (b : Int) (w : World) (h0 : -9223372036854775808 ≤ b) (h1 : b ≤ 9223372036854775807) (hl : l.length ≤ 9223372036854775807)
    (h : sideL b < 1 ∨ (l.length : Int) < sideL b) :
    Calls Tryd.prog 16 #[.slice A l.length c, .int .i64 b] w fun e w' => e = .returned (.tuple #[.string ⟨#[]⟩, .int .i64 1]) ∧ Below w.heap.size w w' := by
  have ho := of_no l A c b w h0 h1 hl h
  clear h
  unfold blank at ho
  go_enter Tryd.func16, Tryd.ntmps16
  go_wp2_with fail
  refine ho.mono ?_
  rintro e w1 ⟨rfl, hb⟩
  go_wp2_with fail
  go_ret2
  exact ⟨rfl, hb.alloc hb.size _⟩
theorem textR_no (l : List Site) (A : Option Addr) (c : Nat) (b : Int) (w : World) (h0 : -9223372036854775808 ≤ b) (h1 : b ≤ 9223372036854775807) (hl : l.length ≤ 9223372036854775807)
    (h : sideL b < 1 ∨ (l.length : Int) < sideL b) :
    Calls Tryd.prog 17 #[.slice A l.length c, .int .i64 b] w fun e w' => e = .returned (.tuple #[.string ⟨#[]⟩, .int .i64 1]) ∧ Below w.heap.size w w' := by
  have ho := ofR_no l A c b w h0 h1 hl h
  clear h
  unfold blank at ho
  go_enter Tryd.func17, Tryd.ntmps17
  go_wp2_with fail
  refine ho.mono ?_
  rintro e w1 ⟨rfl, hb⟩
  go_wp2_with fail
  go_ret2
  exact ⟨rfl, hb.alloc hb.size _⟩

/-- Rule's answer. -/
def ruleS (r : Int) : ByteArray := if 1 ≤ r ∧ r ≤ 18 then word r.toNat else ⟨#[]⟩
theorem rule_any (r : Int) (w : World) (h0 : -9223372036854775808 ≤ r) (h1 : r ≤ 9223372036854775807) : Gives w 20 #[.int .i64 r] (.string (ruleS r)) := by
  intro W _
  unfold ruleS
  by_cases h : 1 ≤ r ∧ r ≤ 18
  · obtain ⟨n, rfl⟩ : ∃ n : Nat, r = n := ⟨r.toNat, by omega⟩
    rw [if_pos h]
    exact rule_yes n W (by omega) (by omega)
  · rw [if_neg h]
    exact (rule_no r W (by omega) h0 h1).mono fun e w' ⟨a, b⟩ => ⟨a, by rw [← b]; exact Below.refl _ _⟩
theorem ruleR_any (r : Int) (w : World) (h0 : -9223372036854775808 ≤ r) (h1 : r ≤ 9223372036854775807) : Gives w 21 #[.int .i64 r] (.string (ruleS r)) := by
  intro W _
  unfold ruleS
  by_cases h : 1 ≤ r ∧ r ≤ 18
  · obtain ⟨n, rfl⟩ : ∃ n : Nat, r = n := ⟨r.toNat, by omega⟩
    rw [if_pos h]
    exact ruleR_yes n W (by omega) (by omega)
  · rw [if_neg h]
    exact ruleR_no r W (by omega) h0 h1
theorem word_facts : ∀ n, n < 19 → 1 ≤ n → (word n).toList.isEmpty = false ∧ (word n).size ≤ 21 := by decide +kernel
theorem ruleS_wordS (r : Int) : (ruleS r).toList.isEmpty = false → ruleS r = wordS r := by
  unfold ruleS wordS
  split
  · intro _; rfl
  · intro h; exact absurd h (by simp)
theorem wordS_size (r : Int) (h0 : -9223372036854775808 ≤ r) (h1 : r ≤ 9223372036854775807) : (wordS r).size ≤ 21 := by
  unfold wordS
  split
  · exact (word_facts r.toNat (by omega) (by omega)).2
  · exact itoaS_size r h0 h1
/-- Where a rule has a word, Itoa of it is not asked. -/
theorem wordS_itoa (r : Int) (W w : World) (h0 : -9223372036854775808 ≤ r) (h1 : r ≤ 9223372036854775807) (ht : Tab w) (hb : Below w.heap.size w W) (h : (ruleS r).toList.isEmpty = true) :
    Calls Tryd.prog 45 #[.int .i64 r] W fun e w' => e = .returned (.string (wordS r)) ∧ Below W.heap.size W w' := by
  have hn : ¬ (1 ≤ r ∧ r ≤ 18) := by
    intro hc
    unfold ruleS at h
    rw [if_pos hc, (word_facts r.toNat (by omega) (by omega)).1] at h
    cases h
  unfold wordS
  rw [if_neg hn]
  exact itoa_any r w W h0 h1 ht hb

theorem tells_any (l : List Site) (A : Option Addr) (c : Nat) (b rule : Int) (w : World) (h0 : -9223372036854775808 ≤ b) (h1 : b ≤ 9223372036854775807) (r0 : -9223372036854775808 ≤ rule) (r1 : rule ≤ 9223372036854775807)
    (hl : l.length ≤ 9223372036854775807 / 56) (hsz : ∀ s ∈ l, s.mo.size ≤ 140737488351232 ∧ s.ex.size ≤ 140737488351232) (hok : ∀ s ∈ l, s.ok) (hA : Sl w w.heap.size 5 A l.length (cells l)) (ht : Tab w) :
    Calls Tryd.prog 3 #[.slice A l.length c, .int .i64 b, .int .i64 rule] w fun e w' => e = .returned (.bool true) ∧ Below w.heap.size w w' := by
  have hA1 : ∀ W, Below w.heap.size w W → Sl W W.heap.size 5 A l.length (cells l) := fun W hb => (hA.below hb).more hb.size
  have hS : Gives w 10 #[.int .i64 b] (.tuple #[.int .i64 (sideL b), .bool (sideI b)]) := fun W _ => (side_any b W h0 h1).mono fun e w' ⟨a, b⟩ => ⟨a, by rw [← b]; exact Below.refl _ _⟩
  have hSR : Gives w 11 #[.int .i64 b] (.tuple #[.int .i64 (sideL b), .bool (sideI b)]) := fun W _ => (sideR_any b W h0 h1).mono fun e w' ⟨a, b⟩ => ⟨a, by rw [← b]; exact Below.refl _ _⟩
  have hT : Gives w 18 #[.int .i64 b] (.int .i64 (turn b)) := fun W _ => (turn_any b W h0 h1).mono fun e w' ⟨a, b⟩ => ⟨a, by rw [← b]; exact Below.refl _ _⟩
  have hTR : Gives w 19 #[.int .i64 b] (.int .i64 (turn b)) := fun W _ => (turnR_any b W h0 h1).mono fun e w' ⟨a, b⟩ => ⟨a, by rw [← b]; exact Below.refl _ _⟩
  have hL : Gives w 8 #[] (.bool true) := fun W _ => lives_any W
  have hin : Small l → ∀ W, Below w.heap.size w W → Calls Tryd.prog 9 #[.slice A l.length c] W fun e w' => WideSR l W e w' :=
    fun hs W hb => wideSites_any l A c W hs.1 (hA1 W hb)
  have hEq : Small l → ∀ g W, Below w.heap.size w W → W.rowIs g 31 ((l.length + 64) * 5) (fun j => (cells (whole l)).getD j default) →
      Gives W 22 #[.slice (some ⟨g, 0, none⟩) l.length (l.length + 64), .slice A l.length c] (.bool true) ∧
      Gives W 23 #[.slice (some ⟨g, 0, none⟩) l.length (l.length + 64)] (.bool true) := by
    intro hs g W hb hrow
    refine ⟨fun W2 hb2 => ?_, fun W2 hb2 => ?_⟩
    · exact eqSites_any l _ A _ c W2 (by have := hs.1; omega) (((wide_sl hrow).below hb2).more hb2.size) ((hA1 W hb).below hb2 |>.more hb2.size)
    · have := whole_sl hrow
      rw [whole_len] at this
      exact spareSites_any l none g W2 hs.1 ((this.below hb2).more hb2.size)
  have hl' : l.length ≤ 9223372036854775807 := by omega
  by_cases hf : sideL b < 1 ∨ (l.length : Int) < sideL b
  · refine tells_core l A c w ⟨#[]⟩ ⟨#[]⟩ ⟨#[]⟩ ⟨#[]⟩ (ruleS rule) 0 0 0 (sideL b) b (turn b) 1 rule (sideI b) (wideS_any l A c w hl hsz hA) hin (fun hs g W hb hrow => ?_) hS hSR hT hTR (rule_any rule w r0 r1) (ruleR_any rule w r0 r1) hL
    obtain ⟨e1, e2⟩ := hEq hs g W hb hrow
    exact ⟨fun W2 _ => of_no l _ _ b W2 h0 h1 hl' hf, fun W2 _ => ofR_no l _ _ b W2 h0 h1 hl' hf, fun W2 _ => named_no l _ _ b W2 h0 h1 hl' hf, fun W2 _ => namedR_no l _ _ b W2 h0 h1 hl' hf,
      fun W2 _ => text_no l _ _ b W2 h0 h1 hl' hf, fun W2 _ => textR_no l _ _ b W2 h0 h1 hl' hf, e1, e2⟩
  · obtain ⟨k, hk⟩ : ∃ k : Nat, sideL b = (k : Int) + 1 := ⟨(sideL b - 1).toNat, by omega⟩
    have hlt : k < l.length := by omega
    obtain ⟨s, hs⟩ : ∃ s, l[k]? = some s := ⟨_, List.getElem?_eq_getElem hlt⟩
    have hm := List.mem_of_getElem? hs
    have ho := hok s hm
    refine tells_core l A c w s.mo s.ex (nameOf s (sideI b)) (textS (nameOf s (sideI b)) (itoaS s.li) (itoaS s.co) (wordS s.ru) s.mo s.ex (sideI b) s.ru) (ruleS rule) s.li s.co s.ru (sideL b) b (turn b) 0 rule (sideI b)
      (wideS_any l A c w hl hsz hA) hin (fun hsm g W hb hrow => ?_) hS hSR hT hTR (rule_any rule w r0 r1) (ruleR_any rule w r0 r1) hL
    obtain ⟨e1, e2⟩ := hEq hsm g W hb hrow
    have hg : ∀ W2, Below W.heap.size W W2 → Sl W2 W2.heap.size 5 (some ⟨g, 0, none⟩) l.length (cells l) := fun W2 hb2 => ((wide_sl hrow).below hb2).more hb2.size
    have hA2 : ∀ W2, Below W.heap.size W W2 → Sl W2 W2.heap.size 5 A l.length (cells l) := fun W2 hb2 => ((hA1 W hb).below hb2).more hb2.size
    obtain ⟨z5, z6⟩ := hsm.2 s hm
    have z1 : (nameOf s (sideI b)).size ≤ 1048576 := by unfold nameOf; split <;> assumption
    have hbW : ∀ W2 W3, Below W.heap.size W W2 → Below W2.heap.size W2 W3 → Below w.heap.size w W3 := fun W2 W3 x y => bl (bl hb x) y
    have hnm : ∀ W3, Calls Tryd.prog 44 #[.agg #[.string s.mo, .string s.ex, .int .i64 s.li, .int .i64 s.co, .int .i64 s.ru], .bool (sideI b)] W3 fun e w' => e = .returned (.string (nameOf s (sideI b))) ∧ Below W3.heap.size W3 w' := fun W3 => named_any s (sideI b) W3
    refine ⟨fun W2 hb2 => of_yes l _ _ k s b W2 h0 h1 hl' (hg W2 hb2) hk hs, fun W2 hb2 => ofR_yes l _ _ k s b W2 h0 h1 hl' (hA2 W2 hb2) hk hs, fun W2 hb2 => named_yes l _ _ k s b W2 h0 h1 hl' (hg W2 hb2) hk hs,
      fun W2 hb2 => namedR_yes l _ _ k s b W2 h0 h1 hl' (hA2 W2 hb2) hk hs, fun W2 hb2 => ?_, fun W2 hb2 => ?_, e1, e2⟩
    · exact text_core _ _ _ s.mo s.ex (itoaS s.li) (itoaS s.co) (ruleS s.ru) (wordS s.ru) (nameOf s (sideI b)) s.li s.co s.ru (sideL b) b (sideI b) (ruleS s.ru).toList.isEmpty W2 (of_yes l _ _ k s b W2 h0 h1 hl' (hg W2 hb2) hk hs) (fun W3 => side_any b W3 h0 h1)
        (fun W3 => rule_any s.ru W3 ho.r0 ho.r1 W3 (Below.refl _ _)) hnm (fun W3 hb3 => itoa_any s.li w W3 ho.l0 ho.l1 ht (hbW _ _ hb2 hb3)) (fun W3 hb3 => itoa_any s.co w W3 ho.c0 ho.c1 ht (hbW _ _ hb2 hb3))
        (fun he W3 hb3 => wordS_itoa s.ru W3 w ho.r0 ho.r1 ht (hbW _ _ hb2 hb3) he) rfl (ruleS_wordS s.ru) z1 (itoaS_size _ ho.l0 ho.l1) (itoaS_size _ ho.c0 ho.c1) (wordS_size _ ho.r0 ho.r1) z5 z6
    · exact textR_core _ _ _ s.mo s.ex (itoaS s.li) (itoaS s.co) (ruleS s.ru) (wordS s.ru) (nameOf s (sideI b)) s.li s.co s.ru (sideL b) b (sideI b) (ruleS s.ru).toList.isEmpty W2 (ofR_yes l _ _ k s b W2 h0 h1 hl' (hA2 W2 hb2) hk hs) (fun W3 => sideR_any b W3 h0 h1)
        (fun W3 => ruleR_any s.ru W3 ho.r0 ho.r1 W3 (Below.refl _ _)) (fun W3 hb3 => namedR_yes l _ _ k s b W3 h0 h1 hl' (hA2 W3 (bl hb2 hb3)) hk hs)
        (fun W3 hb3 => itoa_any s.li w W3 ho.l0 ho.l1 ht (hbW _ _ hb2 hb3)) (fun W3 hb3 => itoa_any s.co w W3 ho.c0 ho.c1 ht (hbW _ _ hb2 hb3))
        (fun he W3 hb3 => wordS_itoa s.ru W3 w ho.r0 ho.r1 ht (hbW _ _ hb2 hb3) he) rfl (ruleS_wordS s.ru) z1 (itoaS_size _ ho.l0 ho.l1) (itoaS_size _ ho.c0 ho.c1) (wordS_size _ ho.r0 ho.r1) z5 z6
end Go.Proofs.YthonnpjlkcjoeaaDoor.La
