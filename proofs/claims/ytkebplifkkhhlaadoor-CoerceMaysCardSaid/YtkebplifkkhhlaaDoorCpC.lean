/- Contract: Goes of the answer, of any tree. -/
import Derived.Test.YtkebplifkkhhlaaDoorCpB
namespace Go.Proofs.YtkebplifkkhhlaaDoor.C
open Go.RowKit Go.Proofs.YtkebplifkkhhlaaDoor.B
open Go.Proofs.YtkebplifkkhhlaaDoor.T (Ty str)
set_option linter.unusedVariables false
set_option linter.unusedSimpArgs false

theorem goesR_any (t : Co) : ∀ (A : Option Addr) (c : Nat) (C : Nat → Prop) (S T : Ty) (w : World), okC t → TrS w C t (.slice A t.nk c) → S.ok → T.ok → S.code.length ≤ 64 → T.code.length ≤ 64 →
    Calls Tryd.prog 50 #[NV t.nd A t.nk c, .string (str S), .string (str T)] w fun e w' => e = .returned (.bool (goesC t S T)) ∧ Below w.heap.size w w' := by
  induction t with
  | any =>
    intro A c C S T w ho hs hS hT hS64 hT64
    exact goesR_anyW A c S T w hS hT
  | fail p l f q =>
    intro A c C S T w ho hs hS hT hS64 hT64
    exact goesR_failW p l f q A c S T w ho hS hT
  | part p j hh a b iha ihb =>
    intro A c C S T w ho hs hS hT hS64 hT64
    obtain ⟨A', c', e, h1, h2⟩ := hs.slice
    injection e with e1 e2 e3
    subst e1 e3
    refine goesR_partW p j hh a b A (opsN hh) c C S T w (okC_head ho) rfl hs h1 h2 hS hT hS64 hT64 ?_
    intro m A c S T W hm hs hS hT hS64 hT64
    obtain ⟨hok, _⟩ := kid_ok ho m
    revert hs hok
    unfold kidT
    split
    · exact fun hs hok => iha A c C S T W hok hs hS hT hS64 hT64
    · exact fun hs hok => ihb A c C S T W hok hs hS hT hS64 hT64
end Go.Proofs.YtkebplifkkhhlaaDoor.C
