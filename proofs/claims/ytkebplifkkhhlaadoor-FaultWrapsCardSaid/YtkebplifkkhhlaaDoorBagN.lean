/- A bag of lists (printed by gen_bagn.py): the kinds that hold none; Apart out of its kinds. -/
import Derived.Test.YtkebplifkkhhlaaDoorProg
import Derived.Test.YtkebplifkkhhlaaDoorBag
import Derived.Deep.LoopGhost
namespace Go.Proofs.YtkebplifkkhhlaaDoor.B
open Go.RowKit
set_option linter.unusedSimpArgs false
set_option linter.unusedVariables false

set_option maxRecDepth 100000 in
theorem apartBytes_nil (gb : Nat) (w : World) (h : w.cell? ⟨gb, 0, none⟩ = some (.slice none 0 0)) :
    Calls Tryd.prog 70 #[.pointer (some ⟨gb, 0, none⟩)] w fun e w' => e = .returned (.bool true) ∧ w' = w := by
  go_enter Tryd.func70, Tryd.ntmps70
  go_wp2_with fail
  go_loopg [3] 0 (fun g i wr => g = 0 ∧ i = .int .i64 0 ∧ w = wr)
  case atStart => exact ⟨rfl, rfl, rfl⟩
  case round =>
    obtain ⟨rfl, rfl, rfl⟩ := hrel
    go_wp2_with fail
    go_loopg [5, 6, 7] 0 (fun g a b i wr => g = 0 ∧ a = .slice none 0 0 ∧ b = .slice none 0 0 ∧ i = .int .i64 0 ∧ w = wr)
    case atStart => exact ⟨rfl, rfl, rfl, rfl, rfl⟩
    case round =>
      obtain ⟨rfl, rfl, rfl, rfl, rfl⟩ := hrel
      go_wp2_with fail
      go_loopg [10] 0 (fun g i wr => g = 0 ∧ i = .int .i64 0 ∧ w = wr)
      case atStart => exact ⟨rfl, rfl, rfl⟩
      case round =>
        obtain ⟨rfl, rfl, rfl⟩ := hrel
        go_wp2_with fail
        go_ret
        exact ⟨rfl, rfl⟩

set_option maxRecDepth 100000 in
theorem apartInts_nil (gb : Nat) (w : World) (h : w.cell? ⟨gb, 1, none⟩ = some (.slice none 0 0)) :
    Calls Tryd.prog 71 #[.pointer (some ⟨gb, 0, none⟩)] w fun e w' => e = .returned (.bool true) ∧ w' = w := by
  go_enter Tryd.func71, Tryd.ntmps71
  go_wp2_with fail
  go_loopg [3] 0 (fun g i wr => g = 0 ∧ i = .int .i64 0 ∧ w = wr)
  case atStart => exact ⟨rfl, rfl, rfl⟩
  case round =>
    obtain ⟨rfl, rfl, rfl⟩ := hrel
    go_wp2_with fail
    go_loopg [5, 6, 7] 0 (fun g a b i wr => g = 0 ∧ a = .slice none 0 0 ∧ b = .slice none 0 0 ∧ i = .int .i64 0 ∧ w = wr)
    case atStart => exact ⟨rfl, rfl, rfl, rfl, rfl⟩
    case round =>
      obtain ⟨rfl, rfl, rfl, rfl, rfl⟩ := hrel
      go_wp2_with fail
      go_loopg [10] 0 (fun g i wr => g = 0 ∧ i = .int .i64 0 ∧ w = wr)
      case atStart => exact ⟨rfl, rfl, rfl⟩
      case round =>
        obtain ⟨rfl, rfl, rfl⟩ := hrel
        go_wp2_with fail
        go_ret
        exact ⟨rfl, rfl⟩

set_option maxRecDepth 100000 in
theorem apartLongs_nil (gb : Nat) (w : World) (h : w.cell? ⟨gb, 2, none⟩ = some (.slice none 0 0)) :
    Calls Tryd.prog 72 #[.pointer (some ⟨gb, 0, none⟩)] w fun e w' => e = .returned (.bool true) ∧ w' = w := by
  go_enter Tryd.func72, Tryd.ntmps72
  go_wp2_with fail
  go_loopg [3] 0 (fun g i wr => g = 0 ∧ i = .int .i64 0 ∧ w = wr)
  case atStart => exact ⟨rfl, rfl, rfl⟩
  case round =>
    obtain ⟨rfl, rfl, rfl⟩ := hrel
    go_wp2_with fail
    go_loopg [5, 6, 7] 0 (fun g a b i wr => g = 0 ∧ a = .slice none 0 0 ∧ b = .slice none 0 0 ∧ i = .int .i64 0 ∧ w = wr)
    case atStart => exact ⟨rfl, rfl, rfl, rfl, rfl⟩
    case round =>
      obtain ⟨rfl, rfl, rfl, rfl, rfl⟩ := hrel
      go_wp2_with fail
      go_loopg [10] 0 (fun g i wr => g = 0 ∧ i = .int .i64 0 ∧ w = wr)
      case atStart => exact ⟨rfl, rfl, rfl⟩
      case round =>
        obtain ⟨rfl, rfl, rfl⟩ := hrel
        go_wp2_with fail
        go_ret
        exact ⟨rfl, rfl⟩

set_option maxRecDepth 100000 in
theorem apartBools_nil (gb : Nat) (w : World) (h : w.cell? ⟨gb, 3, none⟩ = some (.slice none 0 0)) :
    Calls Tryd.prog 73 #[.pointer (some ⟨gb, 0, none⟩)] w fun e w' => e = .returned (.bool true) ∧ w' = w := by
  go_enter Tryd.func73, Tryd.ntmps73
  go_wp2_with fail
  go_loopg [3] 0 (fun g i wr => g = 0 ∧ i = .int .i64 0 ∧ w = wr)
  case atStart => exact ⟨rfl, rfl, rfl⟩
  case round =>
    obtain ⟨rfl, rfl, rfl⟩ := hrel
    go_wp2_with fail
    go_loopg [5, 6, 7] 0 (fun g a b i wr => g = 0 ∧ a = .slice none 0 0 ∧ b = .slice none 0 0 ∧ i = .int .i64 0 ∧ w = wr)
    case atStart => exact ⟨rfl, rfl, rfl, rfl, rfl⟩
    case round =>
      obtain ⟨rfl, rfl, rfl, rfl, rfl⟩ := hrel
      go_wp2_with fail
      go_loopg [10] 0 (fun g i wr => g = 0 ∧ i = .int .i64 0 ∧ w = wr)
      case atStart => exact ⟨rfl, rfl, rfl⟩
      case round =>
        obtain ⟨rfl, rfl, rfl⟩ := hrel
        go_wp2_with fail
        go_ret
        exact ⟨rfl, rfl⟩

set_option maxRecDepth 100000 in
theorem apartTexts_nil (gb : Nat) (w : World) (h : w.cell? ⟨gb, 4, none⟩ = some (.slice none 0 0)) :
    Calls Tryd.prog 74 #[.pointer (some ⟨gb, 0, none⟩)] w fun e w' => e = .returned (.bool true) ∧ w' = w := by
  go_enter Tryd.func74, Tryd.ntmps74
  go_wp2_with fail
  go_loopg [3] 0 (fun g i wr => g = 0 ∧ i = .int .i64 0 ∧ w = wr)
  case atStart => exact ⟨rfl, rfl, rfl⟩
  case round =>
    obtain ⟨rfl, rfl, rfl⟩ := hrel
    go_wp2_with fail
    go_loopg [5, 6, 7] 0 (fun g a b i wr => g = 0 ∧ a = .slice none 0 0 ∧ b = .slice none 0 0 ∧ i = .int .i64 0 ∧ w = wr)
    case atStart => exact ⟨rfl, rfl, rfl, rfl, rfl⟩
    case round =>
      obtain ⟨rfl, rfl, rfl, rfl, rfl⟩ := hrel
      go_wp2_with fail
      go_loopg [10] 0 (fun g i wr => g = 0 ∧ i = .int .i64 0 ∧ w = wr)
      case atStart => exact ⟨rfl, rfl, rfl⟩
      case round =>
        obtain ⟨rfl, rfl, rfl⟩ := hrel
        go_wp2_with fail
        go_ret
        exact ⟨rfl, rfl⟩

set_option maxRecDepth 100000 in
theorem apartNodes_nil (gb : Nat) (w : World) (h : w.cell? ⟨gb, 5, none⟩ = some (.slice none 0 0)) :
    Calls Tryd.prog 75 #[.pointer (some ⟨gb, 0, none⟩)] w fun e w' => e = .returned (.bool true) ∧ w' = w := by
  go_enter Tryd.func75, Tryd.ntmps75
  go_wp2_with fail
  go_loopg [3] 0 (fun g i wr => g = 0 ∧ i = .int .i64 0 ∧ w = wr)
  case atStart => exact ⟨rfl, rfl, rfl⟩
  case round =>
    obtain ⟨rfl, rfl, rfl⟩ := hrel
    go_wp2_with fail
    go_loopg [5, 6, 7] 0 (fun g a b i wr => g = 0 ∧ a = .slice none 0 0 ∧ b = .slice none 0 0 ∧ i = .int .i64 0 ∧ w = wr)
    case atStart => exact ⟨rfl, rfl, rfl, rfl, rfl⟩
    case round =>
      obtain ⟨rfl, rfl, rfl, rfl, rfl⟩ := hrel
      go_wp2_with fail
      go_loopg [10] 0 (fun g i wr => g = 0 ∧ i = .int .i64 0 ∧ w = wr)
      case atStart => exact ⟨rfl, rfl, rfl⟩
      case round =>
        obtain ⟨rfl, rfl, rfl⟩ := hrel
        go_wp2_with fail
        go_ret
        exact ⟨rfl, rfl⟩

set_option maxRecDepth 100000 in
theorem apartCos_nil (gb : Nat) (w : World) (h : w.cell? ⟨gb, 6, none⟩ = some (.slice none 0 0)) :
    Calls Tryd.prog 76 #[.pointer (some ⟨gb, 0, none⟩)] w fun e w' => e = .returned (.bool true) ∧ w' = w := by
  go_enter Tryd.func76, Tryd.ntmps76
  go_wp2_with fail
  go_loopg [3] 0 (fun g i wr => g = 0 ∧ i = .int .i64 0 ∧ w = wr)
  case atStart => exact ⟨rfl, rfl, rfl⟩
  case round =>
    obtain ⟨rfl, rfl, rfl⟩ := hrel
    go_wp2_with fail
    go_loopg [5, 6, 7] 0 (fun g a b i wr => g = 0 ∧ a = .slice none 0 0 ∧ b = .slice none 0 0 ∧ i = .int .i64 0 ∧ w = wr)
    case atStart => exact ⟨rfl, rfl, rfl, rfl, rfl⟩
    case round =>
      obtain ⟨rfl, rfl, rfl, rfl, rfl⟩ := hrel
      go_wp2_with fail
      go_loopg [10] 0 (fun g i wr => g = 0 ∧ i = .int .i64 0 ∧ w = wr)
      case atStart => exact ⟨rfl, rfl, rfl⟩
      case round =>
        obtain ⟨rfl, rfl, rfl⟩ := hrel
        go_wp2_with fail
        go_ret
        exact ⟨rfl, rfl⟩

set_option maxRecDepth 100000 in
theorem apartSeen_nil (gb : Nat) (w : World) (h : w.cell? ⟨gb, 7, none⟩ = some (.slice none 0 0)) :
    Calls Tryd.prog 77 #[.pointer (some ⟨gb, 0, none⟩)] w fun e w' => e = .returned (.bool true) ∧ w' = w := by
  go_enter Tryd.func77, Tryd.ntmps77
  go_wp2_with fail
  go_loopg [3] 0 (fun g i wr => g = 0 ∧ i = .int .i64 0 ∧ w = wr)
  case atStart => exact ⟨rfl, rfl, rfl⟩
  case round =>
    obtain ⟨rfl, rfl, rfl⟩ := hrel
    go_wp2_with fail
    go_loopg [5, 6, 7] 0 (fun g a b i wr => g = 0 ∧ a = .slice none 0 0 ∧ b = .slice none 0 0 ∧ i = .int .i64 0 ∧ w = wr)
    case atStart => exact ⟨rfl, rfl, rfl, rfl, rfl⟩
    case round =>
      obtain ⟨rfl, rfl, rfl, rfl, rfl⟩ := hrel
      go_wp2_with fail
      go_loopg [10] 0 (fun g i wr => g = 0 ∧ i = .int .i64 0 ∧ w = wr)
      case atStart => exact ⟨rfl, rfl, rfl⟩
      case round =>
        obtain ⟨rfl, rfl, rfl⟩ := hrel
        go_wp2_with fail
        go_ret
        exact ⟨rfl, rfl⟩

set_option maxRecDepth 100000 in
theorem apartSites_nil (gb : Nat) (w : World) (h : w.cell? ⟨gb, 8, none⟩ = some (.slice none 0 0)) :
    Calls Tryd.prog 78 #[.pointer (some ⟨gb, 0, none⟩)] w fun e w' => e = .returned (.bool true) ∧ w' = w := by
  go_enter Tryd.func78, Tryd.ntmps78
  go_wp2_with fail
  go_loopg [3] 0 (fun g i wr => g = 0 ∧ i = .int .i64 0 ∧ w = wr)
  case atStart => exact ⟨rfl, rfl, rfl⟩
  case round =>
    obtain ⟨rfl, rfl, rfl⟩ := hrel
    go_wp2_with fail
    go_loopg [5, 6, 7] 0 (fun g a b i wr => g = 0 ∧ a = .slice none 0 0 ∧ b = .slice none 0 0 ∧ i = .int .i64 0 ∧ w = wr)
    case atStart => exact ⟨rfl, rfl, rfl, rfl, rfl⟩
    case round =>
      obtain ⟨rfl, rfl, rfl, rfl, rfl⟩ := hrel
      go_wp2_with fail
      go_loopg [10] 0 (fun g i wr => g = 0 ∧ i = .int .i64 0 ∧ w = wr)
      case atStart => exact ⟨rfl, rfl, rfl⟩
      case round =>
        obtain ⟨rfl, rfl, rfl⟩ := hrel
        go_wp2_with fail
        go_ret
        exact ⟨rfl, rfl⟩

set_option maxRecDepth 100000 in
theorem apartIns_nil (gb : Nat) (w : World) (h : w.cell? ⟨gb, 9, none⟩ = some (.slice none 0 0)) :
    Calls Tryd.prog 79 #[.pointer (some ⟨gb, 0, none⟩)] w fun e w' => e = .returned (.bool true) ∧ w' = w := by
  go_enter Tryd.func79, Tryd.ntmps79
  go_wp2_with fail
  go_loopg [3] 0 (fun g i wr => g = 0 ∧ i = .int .i64 0 ∧ w = wr)
  case atStart => exact ⟨rfl, rfl, rfl⟩
  case round =>
    obtain ⟨rfl, rfl, rfl⟩ := hrel
    go_wp2_with fail
    go_loopg [5, 6, 7] 0 (fun g a b i wr => g = 0 ∧ a = .slice none 0 0 ∧ b = .slice none 0 0 ∧ i = .int .i64 0 ∧ w = wr)
    case atStart => exact ⟨rfl, rfl, rfl, rfl, rfl⟩
    case round =>
      obtain ⟨rfl, rfl, rfl, rfl, rfl⟩ := hrel
      go_wp2_with fail
      go_loopg [10] 0 (fun g i wr => g = 0 ∧ i = .int .i64 0 ∧ w = wr)
      case atStart => exact ⟨rfl, rfl, rfl⟩
      case round =>
        obtain ⟨rfl, rfl, rfl⟩ := hrel
        go_wp2_with fail
        go_ret
        exact ⟨rfl, rfl⟩

set_option maxRecDepth 100000 in
theorem apartImports_nil (gb : Nat) (w : World) (h : w.cell? ⟨gb, 10, none⟩ = some (.slice none 0 0)) :
    Calls Tryd.prog 80 #[.pointer (some ⟨gb, 0, none⟩)] w fun e w' => e = .returned (.bool true) ∧ w' = w := by
  go_enter Tryd.func80, Tryd.ntmps80
  go_wp2_with fail
  go_loopg [3] 0 (fun g i wr => g = 0 ∧ i = .int .i64 0 ∧ w = wr)
  case atStart => exact ⟨rfl, rfl, rfl⟩
  case round =>
    obtain ⟨rfl, rfl, rfl⟩ := hrel
    go_wp2_with fail
    go_loopg [5, 6, 7] 0 (fun g a b i wr => g = 0 ∧ a = .slice none 0 0 ∧ b = .slice none 0 0 ∧ i = .int .i64 0 ∧ w = wr)
    case atStart => exact ⟨rfl, rfl, rfl, rfl, rfl⟩
    case round =>
      obtain ⟨rfl, rfl, rfl, rfl, rfl⟩ := hrel
      go_wp2_with fail
      go_loopg [10] 0 (fun g i wr => g = 0 ∧ i = .int .i64 0 ∧ w = wr)
      case atStart => exact ⟨rfl, rfl, rfl⟩
      case round =>
        obtain ⟨rfl, rfl, rfl⟩ := hrel
        go_wp2_with fail
        go_ret
        exact ⟨rfl, rfl⟩

set_option maxRecDepth 100000 in
theorem apartTraps_nil (gb : Nat) (w : World) (h : w.cell? ⟨gb, 11, none⟩ = some (.slice none 0 0)) :
    Calls Tryd.prog 81 #[.pointer (some ⟨gb, 0, none⟩)] w fun e w' => e = .returned (.bool true) ∧ w' = w := by
  go_enter Tryd.func81, Tryd.ntmps81
  go_wp2_with fail
  go_loopg [3] 0 (fun g i wr => g = 0 ∧ i = .int .i64 0 ∧ w = wr)
  case atStart => exact ⟨rfl, rfl, rfl⟩
  case round =>
    obtain ⟨rfl, rfl, rfl⟩ := hrel
    go_wp2_with fail
    go_loopg [5, 6, 7] 0 (fun g a b i wr => g = 0 ∧ a = .slice none 0 0 ∧ b = .slice none 0 0 ∧ i = .int .i64 0 ∧ w = wr)
    case atStart => exact ⟨rfl, rfl, rfl, rfl, rfl⟩
    case round =>
      obtain ⟨rfl, rfl, rfl, rfl, rfl⟩ := hrel
      go_wp2_with fail
      go_loopg [10] 0 (fun g i wr => g = 0 ∧ i = .int .i64 0 ∧ w = wr)
      case atStart => exact ⟨rfl, rfl, rfl⟩
      case round =>
        obtain ⟨rfl, rfl, rfl⟩ := hrel
        go_wp2_with fail
        go_ret
        exact ⟨rfl, rfl⟩

set_option maxRecDepth 100000 in
theorem apartRows_nil (gb : Nat) (w : World) (h : w.cell? ⟨gb, 12, none⟩ = some (.slice none 0 0)) :
    Calls Tryd.prog 82 #[.pointer (some ⟨gb, 0, none⟩)] w fun e w' => e = .returned (.bool true) ∧ w' = w := by
  go_enter Tryd.func82, Tryd.ntmps82
  go_wp2_with fail
  go_loopg [3] 0 (fun g i wr => g = 0 ∧ i = .int .i64 0 ∧ w = wr)
  case atStart => exact ⟨rfl, rfl, rfl⟩
  case round =>
    obtain ⟨rfl, rfl, rfl⟩ := hrel
    go_wp2_with fail
    go_loopg [5, 6, 7] 0 (fun g a b i wr => g = 0 ∧ a = .slice none 0 0 ∧ b = .slice none 0 0 ∧ i = .int .i64 0 ∧ w = wr)
    case atStart => exact ⟨rfl, rfl, rfl, rfl, rfl⟩
    case round =>
      obtain ⟨rfl, rfl, rfl, rfl, rfl⟩ := hrel
      go_wp2_with fail
      go_loopg [10] 0 (fun g i wr => g = 0 ∧ i = .int .i64 0 ∧ w = wr)
      case atStart => exact ⟨rfl, rfl, rfl⟩
      case round =>
        obtain ⟨rfl, rfl, rfl⟩ := hrel
        go_wp2_with fail
        go_ret
        exact ⟨rfl, rfl⟩

set_option maxRecDepth 100000 in
theorem apartDefs_nil (gb : Nat) (w : World) (h : w.cell? ⟨gb, 13, none⟩ = some (.slice none 0 0)) :
    Calls Tryd.prog 83 #[.pointer (some ⟨gb, 0, none⟩)] w fun e w' => e = .returned (.bool true) ∧ w' = w := by
  go_enter Tryd.func83, Tryd.ntmps83
  go_wp2_with fail
  go_loopg [3] 0 (fun g i wr => g = 0 ∧ i = .int .i64 0 ∧ w = wr)
  case atStart => exact ⟨rfl, rfl, rfl⟩
  case round =>
    obtain ⟨rfl, rfl, rfl⟩ := hrel
    go_wp2_with fail
    go_loopg [5, 6, 7] 0 (fun g a b i wr => g = 0 ∧ a = .slice none 0 0 ∧ b = .slice none 0 0 ∧ i = .int .i64 0 ∧ w = wr)
    case atStart => exact ⟨rfl, rfl, rfl, rfl, rfl⟩
    case round =>
      obtain ⟨rfl, rfl, rfl, rfl, rfl⟩ := hrel
      go_wp2_with fail
      go_loopg [10] 0 (fun g i wr => g = 0 ∧ i = .int .i64 0 ∧ w = wr)
      case atStart => exact ⟨rfl, rfl, rfl⟩
      case round =>
        obtain ⟨rfl, rfl, rfl⟩ := hrel
        go_wp2_with fail
        go_ret
        exact ⟨rfl, rfl⟩

set_option maxRecDepth 100000 in
theorem apartModules_nil (gb : Nat) (w : World) (h : w.cell? ⟨gb, 14, none⟩ = some (.slice none 0 0)) :
    Calls Tryd.prog 84 #[.pointer (some ⟨gb, 0, none⟩)] w fun e w' => e = .returned (.bool true) ∧ w' = w := by
  go_enter Tryd.func84, Tryd.ntmps84
  go_wp2_with fail
  go_loopg [3] 0 (fun g i wr => g = 0 ∧ i = .int .i64 0 ∧ w = wr)
  case atStart => exact ⟨rfl, rfl, rfl⟩
  case round =>
    obtain ⟨rfl, rfl, rfl⟩ := hrel
    go_wp2_with fail
    go_loopg [5, 6, 7] 0 (fun g a b i wr => g = 0 ∧ a = .slice none 0 0 ∧ b = .slice none 0 0 ∧ i = .int .i64 0 ∧ w = wr)
    case atStart => exact ⟨rfl, rfl, rfl, rfl, rfl⟩
    case round =>
      obtain ⟨rfl, rfl, rfl, rfl, rfl⟩ := hrel
      go_wp2_with fail
      go_loopg [10] 0 (fun g i wr => g = 0 ∧ i = .int .i64 0 ∧ w = wr)
      case atStart => exact ⟨rfl, rfl, rfl⟩
      case round =>
        obtain ⟨rfl, rfl, rfl⟩ := hrel
        go_wp2_with fail
        go_ret
        exact ⟨rfl, rfl⟩

set_option maxRecDepth 100000 in
theorem apartFunctions_nil (gb : Nat) (w : World) (h : w.cell? ⟨gb, 15, none⟩ = some (.slice none 0 0)) :
    Calls Tryd.prog 85 #[.pointer (some ⟨gb, 0, none⟩)] w fun e w' => e = .returned (.bool true) ∧ w' = w := by
  go_enter Tryd.func85, Tryd.ntmps85
  go_wp2_with fail
  go_loopg [3] 0 (fun g i wr => g = 0 ∧ i = .int .i64 0 ∧ w = wr)
  case atStart => exact ⟨rfl, rfl, rfl⟩
  case round =>
    obtain ⟨rfl, rfl, rfl⟩ := hrel
    go_wp2_with fail
    go_loopg [5, 6, 7] 0 (fun g a b i wr => g = 0 ∧ a = .slice none 0 0 ∧ b = .slice none 0 0 ∧ i = .int .i64 0 ∧ w = wr)
    case atStart => exact ⟨rfl, rfl, rfl, rfl, rfl⟩
    case round =>
      obtain ⟨rfl, rfl, rfl, rfl, rfl⟩ := hrel
      go_wp2_with fail
      go_loopg [10] 0 (fun g i wr => g = 0 ∧ i = .int .i64 0 ∧ w = wr)
      case atStart => exact ⟨rfl, rfl, rfl⟩
      case round =>
        obtain ⟨rfl, rfl, rfl⟩ := hrel
        go_wp2_with fail
        go_ret
        exact ⟨rfl, rfl⟩

set_option maxRecDepth 100000 in
theorem apartWaits_nil (gb : Nat) (w : World) (h : w.cell? ⟨gb, 16, none⟩ = some (.slice none 0 0)) :
    Calls Tryd.prog 86 #[.pointer (some ⟨gb, 0, none⟩)] w fun e w' => e = .returned (.bool true) ∧ w' = w := by
  go_enter Tryd.func86, Tryd.ntmps86
  go_wp2_with fail
  go_loopg [3] 0 (fun g i wr => g = 0 ∧ i = .int .i64 0 ∧ w = wr)
  case atStart => exact ⟨rfl, rfl, rfl⟩
  case round =>
    obtain ⟨rfl, rfl, rfl⟩ := hrel
    go_wp2_with fail
    go_loopg [5, 6, 7] 0 (fun g a b i wr => g = 0 ∧ a = .slice none 0 0 ∧ b = .slice none 0 0 ∧ i = .int .i64 0 ∧ w = wr)
    case atStart => exact ⟨rfl, rfl, rfl, rfl, rfl⟩
    case round =>
      obtain ⟨rfl, rfl, rfl, rfl, rfl⟩ := hrel
      go_wp2_with fail
      go_loopg [10] 0 (fun g i wr => g = 0 ∧ i = .int .i64 0 ∧ w = wr)
      case atStart => exact ⟨rfl, rfl, rfl⟩
      case round =>
        obtain ⟨rfl, rfl, rfl⟩ := hrel
        go_wp2_with fail
        go_ret
        exact ⟨rfl, rfl⟩

set_option maxRecDepth 100000 in
theorem apartTrees_nil (gb : Nat) (w : World) (h : w.cell? ⟨gb, 17, none⟩ = some (.slice none 0 0)) :
    Calls Tryd.prog 87 #[.pointer (some ⟨gb, 0, none⟩)] w fun e w' => e = .returned (.bool true) ∧ w' = w := by
  go_enter Tryd.func87, Tryd.ntmps87
  go_wp2_with fail
  go_loopg [3] 0 (fun g i wr => g = 0 ∧ i = .int .i64 0 ∧ w = wr)
  case atStart => exact ⟨rfl, rfl, rfl⟩
  case round =>
    obtain ⟨rfl, rfl, rfl⟩ := hrel
    go_wp2_with fail
    go_loopg [5, 6, 7] 0 (fun g a b i wr => g = 0 ∧ a = .slice none 0 0 ∧ b = .slice none 0 0 ∧ i = .int .i64 0 ∧ w = wr)
    case atStart => exact ⟨rfl, rfl, rfl, rfl, rfl⟩
    case round =>
      obtain ⟨rfl, rfl, rfl, rfl, rfl⟩ := hrel
      go_wp2_with fail
      go_loopg [10] 0 (fun g i wr => g = 0 ∧ i = .int .i64 0 ∧ w = wr)
      case atStart => exact ⟨rfl, rfl, rfl⟩
      case round =>
        obtain ⟨rfl, rfl, rfl⟩ := hrel
        go_wp2_with fail
        go_ret
        exact ⟨rfl, rfl⟩

set_option maxRecDepth 100000 in
/-- Apart, kind by kind. -/
theorem apart_chain (I : Nat → World → Prop) (gb : Nat) (w : World) (h0 : I 0 w)
    (h_Bytes : ∀ W, I 0 W → Calls Tryd.prog 70 #[.pointer (some ⟨gb, 0, none⟩)] W fun e w' => e = .returned (.bool true) ∧ I 1 w')
    (h_Ints : ∀ W, I 1 W → Calls Tryd.prog 71 #[.pointer (some ⟨gb, 0, none⟩)] W fun e w' => e = .returned (.bool true) ∧ I 2 w')
    (h_Longs : ∀ W, I 2 W → Calls Tryd.prog 72 #[.pointer (some ⟨gb, 0, none⟩)] W fun e w' => e = .returned (.bool true) ∧ I 3 w')
    (h_Bools : ∀ W, I 3 W → Calls Tryd.prog 73 #[.pointer (some ⟨gb, 0, none⟩)] W fun e w' => e = .returned (.bool true) ∧ I 4 w')
    (h_Texts : ∀ W, I 4 W → Calls Tryd.prog 74 #[.pointer (some ⟨gb, 0, none⟩)] W fun e w' => e = .returned (.bool true) ∧ I 5 w')
    (h_Nodes : ∀ W, I 5 W → Calls Tryd.prog 75 #[.pointer (some ⟨gb, 0, none⟩)] W fun e w' => e = .returned (.bool true) ∧ I 6 w')
    (h_Cos : ∀ W, I 6 W → Calls Tryd.prog 76 #[.pointer (some ⟨gb, 0, none⟩)] W fun e w' => e = .returned (.bool true) ∧ I 7 w')
    (h_Seen : ∀ W, I 7 W → Calls Tryd.prog 77 #[.pointer (some ⟨gb, 0, none⟩)] W fun e w' => e = .returned (.bool true) ∧ I 8 w')
    (h_Sites : ∀ W, I 8 W → Calls Tryd.prog 78 #[.pointer (some ⟨gb, 0, none⟩)] W fun e w' => e = .returned (.bool true) ∧ I 9 w')
    (h_Ins : ∀ W, I 9 W → Calls Tryd.prog 79 #[.pointer (some ⟨gb, 0, none⟩)] W fun e w' => e = .returned (.bool true) ∧ I 10 w')
    (h_Imports : ∀ W, I 10 W → Calls Tryd.prog 80 #[.pointer (some ⟨gb, 0, none⟩)] W fun e w' => e = .returned (.bool true) ∧ I 11 w')
    (h_Traps : ∀ W, I 11 W → Calls Tryd.prog 81 #[.pointer (some ⟨gb, 0, none⟩)] W fun e w' => e = .returned (.bool true) ∧ I 12 w')
    (h_Rows : ∀ W, I 12 W → Calls Tryd.prog 82 #[.pointer (some ⟨gb, 0, none⟩)] W fun e w' => e = .returned (.bool true) ∧ I 13 w')
    (h_Defs : ∀ W, I 13 W → Calls Tryd.prog 83 #[.pointer (some ⟨gb, 0, none⟩)] W fun e w' => e = .returned (.bool true) ∧ I 14 w')
    (h_Modules : ∀ W, I 14 W → Calls Tryd.prog 84 #[.pointer (some ⟨gb, 0, none⟩)] W fun e w' => e = .returned (.bool true) ∧ I 15 w')
    (h_Functions : ∀ W, I 15 W → Calls Tryd.prog 85 #[.pointer (some ⟨gb, 0, none⟩)] W fun e w' => e = .returned (.bool true) ∧ I 16 w')
    (h_Waits : ∀ W, I 16 W → Calls Tryd.prog 86 #[.pointer (some ⟨gb, 0, none⟩)] W fun e w' => e = .returned (.bool true) ∧ I 17 w')
    (h_Trees : ∀ W, I 17 W → Calls Tryd.prog 87 #[.pointer (some ⟨gb, 0, none⟩)] W fun e w' => e = .returned (.bool true) ∧ I 18 w') :
    Calls Tryd.prog 32 #[.pointer (some ⟨gb, 0, none⟩)] w fun e w' => e = .returned (.bool true) ∧ I 18 w' := by
  have HBytes := Lib.hid h_Bytes
  have HInts := Lib.hid h_Ints
  have HLongs := Lib.hid h_Longs
  have HBools := Lib.hid h_Bools
  have HTexts := Lib.hid h_Texts
  have HNodes := Lib.hid h_Nodes
  have HCos := Lib.hid h_Cos
  have HSeen := Lib.hid h_Seen
  have HSites := Lib.hid h_Sites
  have HIns := Lib.hid h_Ins
  have HImports := Lib.hid h_Imports
  have HTraps := Lib.hid h_Traps
  have HRows := Lib.hid h_Rows
  have HDefs := Lib.hid h_Defs
  have HModules := Lib.hid h_Modules
  have HFunctions := Lib.hid h_Functions
  have HWaits := Lib.hid h_Waits
  have HTrees := Lib.hid h_Trees
  clear h_Bytes h_Ints h_Longs h_Bools h_Texts h_Nodes h_Cos h_Seen h_Sites h_Ins h_Imports h_Traps h_Rows h_Defs h_Modules h_Functions h_Waits h_Trees
  go_enter Tryd.func32, Tryd.ntmps32
  go_wp2_with fail

  refine (HBytes.out _ h0).mono ?_
  rintro e w1 ⟨rfl, i1⟩
  go_wp2_with fail
  refine (HInts.out _ i1).mono ?_
  rintro e w2 ⟨rfl, i2⟩
  go_wp2_with fail
  refine (HLongs.out _ i2).mono ?_
  rintro e w3 ⟨rfl, i3⟩
  go_wp2_with fail
  refine (HBools.out _ i3).mono ?_
  rintro e w4 ⟨rfl, i4⟩
  go_wp2_with fail
  refine (HTexts.out _ i4).mono ?_
  rintro e w5 ⟨rfl, i5⟩
  go_wp2_with fail
  refine (HNodes.out _ i5).mono ?_
  rintro e w6 ⟨rfl, i6⟩
  go_wp2_with fail
  refine (HCos.out _ i6).mono ?_
  rintro e w7 ⟨rfl, i7⟩
  go_wp2_with fail
  refine (HSeen.out _ i7).mono ?_
  rintro e w8 ⟨rfl, i8⟩
  go_wp2_with fail
  refine (HSites.out _ i8).mono ?_
  rintro e w9 ⟨rfl, i9⟩
  go_wp2_with fail
  refine (HIns.out _ i9).mono ?_
  rintro e w10 ⟨rfl, i10⟩
  go_wp2_with fail
  refine (HImports.out _ i10).mono ?_
  rintro e w11 ⟨rfl, i11⟩
  go_wp2_with fail
  refine (HTraps.out _ i11).mono ?_
  rintro e w12 ⟨rfl, i12⟩
  go_wp2_with fail
  refine (HRows.out _ i12).mono ?_
  rintro e w13 ⟨rfl, i13⟩
  go_wp2_with fail
  refine (HDefs.out _ i13).mono ?_
  rintro e w14 ⟨rfl, i14⟩
  go_wp2_with fail
  refine (HModules.out _ i14).mono ?_
  rintro e w15 ⟨rfl, i15⟩
  go_wp2_with fail
  refine (HFunctions.out _ i15).mono ?_
  rintro e w16 ⟨rfl, i16⟩
  go_wp2_with fail
  refine (HWaits.out _ i16).mono ?_
  rintro e w17 ⟨rfl, i17⟩
  go_wp2_with fail
  refine (HTrees.out _ i17).mono ?_
  rintro e w18 ⟨rfl, i18⟩
  go_wp2_with fail
  go_ret
  exact ⟨rfl, i18⟩
end Go.Proofs.YtkebplifkkhhlaaDoor.B
