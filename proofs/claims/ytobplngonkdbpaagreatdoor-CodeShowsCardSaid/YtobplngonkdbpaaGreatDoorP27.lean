/- Parts of this claim: BagN, BgB. -/
import Derived.Deep.LoopGhost
import Derived.Test.YtobplngonkdbpaaGreatDoorProg
import Derived.Test.YtobplngonkdbpaaGreatDoorP01
import Derived.Test.YtobplngonkdbpaaGreatDoorP26
set_option linter.unusedVariables false
set_option linter.unusedSimpArgs false
/- BagN -/
namespace Go.Proofs.YtobplngonkdbpaaGreatDoor.B
open Go.RowKit
set_option linter.unusedSimpArgs false
set_option linter.unusedVariables false
set_option maxRecDepth 100000 in
theorem apartBytes_nil (gb : Nat) (w : World) (h : w.cell? ⟨gb, 0, none⟩ = some (.slice none 0 0)) :
  Calls Tryz.prog 61 #[.pointer (some ⟨gb, 0, none⟩)] w fun e w' => e = .returned (.bool true) /\ w' = w := by
 go_enter Tryz.func61, Tryz.ntmps61
 go_wp2_with fail
 go_loopg [3] 0 (fun g i wr => g = 0 /\ i = .int .i64 0 /\ w = wr)
 case atStart => exact ⟨rfl, rfl, rfl⟩
 case round =>
  obtain ⟨rfl, rfl, rfl⟩ := hrel
  go_wp2_with fail
  go_loopg [5, 6, 7] 0 (fun g a b i wr => g = 0 /\ a = .slice none 0 0 /\ b = .slice none 0 0 /\ i = .int .i64 0 /\ w = wr)
  case atStart => exact ⟨rfl, rfl, rfl, rfl, rfl⟩
  case round =>
   obtain ⟨rfl, rfl, rfl, rfl, rfl⟩ := hrel
   go_wp2_with fail
   go_loopg [10] 0 (fun g i wr => g = 0 /\ i = .int .i64 0 /\ w = wr)
   case atStart => exact ⟨rfl, rfl, rfl⟩
   case round =>
    obtain ⟨rfl, rfl, rfl⟩ := hrel
    go_wp2_with fail
    go_ret
    exact ⟨rfl, rfl⟩
set_option maxRecDepth 100000 in
theorem apartInts_nil (gb : Nat) (w : World) (h : w.cell? ⟨gb, 1, none⟩ = some (.slice none 0 0)) :
  Calls Tryz.prog 62 #[.pointer (some ⟨gb, 0, none⟩)] w fun e w' => e = .returned (.bool true) /\ w' = w := by
 go_enter Tryz.func62, Tryz.ntmps62
 go_wp2_with fail
 go_loopg [3] 0 (fun g i wr => g = 0 /\ i = .int .i64 0 /\ w = wr)
 case atStart => exact ⟨rfl, rfl, rfl⟩
 case round =>
  obtain ⟨rfl, rfl, rfl⟩ := hrel
  go_wp2_with fail
  go_loopg [5, 6, 7] 0 (fun g a b i wr => g = 0 /\ a = .slice none 0 0 /\ b = .slice none 0 0 /\ i = .int .i64 0 /\ w = wr)
  case atStart => exact ⟨rfl, rfl, rfl, rfl, rfl⟩
  case round =>
   obtain ⟨rfl, rfl, rfl, rfl, rfl⟩ := hrel
   go_wp2_with fail
   go_loopg [10] 0 (fun g i wr => g = 0 /\ i = .int .i64 0 /\ w = wr)
   case atStart => exact ⟨rfl, rfl, rfl⟩
   case round =>
    obtain ⟨rfl, rfl, rfl⟩ := hrel
    go_wp2_with fail
    go_ret
    exact ⟨rfl, rfl⟩
set_option maxRecDepth 100000 in
theorem apartLongs_nil (gb : Nat) (w : World) (h : w.cell? ⟨gb, 2, none⟩ = some (.slice none 0 0)) :
  Calls Tryz.prog 63 #[.pointer (some ⟨gb, 0, none⟩)] w fun e w' => e = .returned (.bool true) /\ w' = w := by
 go_enter Tryz.func63, Tryz.ntmps63
 go_wp2_with fail
 go_loopg [3] 0 (fun g i wr => g = 0 /\ i = .int .i64 0 /\ w = wr)
 case atStart => exact ⟨rfl, rfl, rfl⟩
 case round =>
  obtain ⟨rfl, rfl, rfl⟩ := hrel
  go_wp2_with fail
  go_loopg [5, 6, 7] 0 (fun g a b i wr => g = 0 /\ a = .slice none 0 0 /\ b = .slice none 0 0 /\ i = .int .i64 0 /\ w = wr)
  case atStart => exact ⟨rfl, rfl, rfl, rfl, rfl⟩
  case round =>
   obtain ⟨rfl, rfl, rfl, rfl, rfl⟩ := hrel
   go_wp2_with fail
   go_loopg [10] 0 (fun g i wr => g = 0 /\ i = .int .i64 0 /\ w = wr)
   case atStart => exact ⟨rfl, rfl, rfl⟩
   case round =>
    obtain ⟨rfl, rfl, rfl⟩ := hrel
    go_wp2_with fail
    go_ret
    exact ⟨rfl, rfl⟩
set_option maxRecDepth 100000 in
theorem apartBools_nil (gb : Nat) (w : World) (h : w.cell? ⟨gb, 3, none⟩ = some (.slice none 0 0)) :
  Calls Tryz.prog 64 #[.pointer (some ⟨gb, 0, none⟩)] w fun e w' => e = .returned (.bool true) /\ w' = w := by
 go_enter Tryz.func64, Tryz.ntmps64
 go_wp2_with fail
 go_loopg [3] 0 (fun g i wr => g = 0 /\ i = .int .i64 0 /\ w = wr)
 case atStart => exact ⟨rfl, rfl, rfl⟩
 case round =>
  obtain ⟨rfl, rfl, rfl⟩ := hrel
  go_wp2_with fail
  go_loopg [5, 6, 7] 0 (fun g a b i wr => g = 0 /\ a = .slice none 0 0 /\ b = .slice none 0 0 /\ i = .int .i64 0 /\ w = wr)
  case atStart => exact ⟨rfl, rfl, rfl, rfl, rfl⟩
  case round =>
   obtain ⟨rfl, rfl, rfl, rfl, rfl⟩ := hrel
   go_wp2_with fail
   go_loopg [10] 0 (fun g i wr => g = 0 /\ i = .int .i64 0 /\ w = wr)
   case atStart => exact ⟨rfl, rfl, rfl⟩
   case round =>
    obtain ⟨rfl, rfl, rfl⟩ := hrel
    go_wp2_with fail
    go_ret
    exact ⟨rfl, rfl⟩
set_option maxRecDepth 100000 in
theorem apartTexts_nil (gb : Nat) (w : World) (h : w.cell? ⟨gb, 4, none⟩ = some (.slice none 0 0)) :
  Calls Tryz.prog 65 #[.pointer (some ⟨gb, 0, none⟩)] w fun e w' => e = .returned (.bool true) /\ w' = w := by
 go_enter Tryz.func65, Tryz.ntmps65
 go_wp2_with fail
 go_loopg [3] 0 (fun g i wr => g = 0 /\ i = .int .i64 0 /\ w = wr)
 case atStart => exact ⟨rfl, rfl, rfl⟩
 case round =>
  obtain ⟨rfl, rfl, rfl⟩ := hrel
  go_wp2_with fail
  go_loopg [5, 6, 7] 0 (fun g a b i wr => g = 0 /\ a = .slice none 0 0 /\ b = .slice none 0 0 /\ i = .int .i64 0 /\ w = wr)
  case atStart => exact ⟨rfl, rfl, rfl, rfl, rfl⟩
  case round =>
   obtain ⟨rfl, rfl, rfl, rfl, rfl⟩ := hrel
   go_wp2_with fail
   go_loopg [10] 0 (fun g i wr => g = 0 /\ i = .int .i64 0 /\ w = wr)
   case atStart => exact ⟨rfl, rfl, rfl⟩
   case round =>
    obtain ⟨rfl, rfl, rfl⟩ := hrel
    go_wp2_with fail
    go_ret
    exact ⟨rfl, rfl⟩
set_option maxRecDepth 100000 in
theorem apartNodes_nil (gb : Nat) (w : World) (h : w.cell? ⟨gb, 5, none⟩ = some (.slice none 0 0)) :
  Calls Tryz.prog 66 #[.pointer (some ⟨gb, 0, none⟩)] w fun e w' => e = .returned (.bool true) /\ w' = w := by
 go_enter Tryz.func66, Tryz.ntmps66
 go_wp2_with fail
 go_loopg [3] 0 (fun g i wr => g = 0 /\ i = .int .i64 0 /\ w = wr)
 case atStart => exact ⟨rfl, rfl, rfl⟩
 case round =>
  obtain ⟨rfl, rfl, rfl⟩ := hrel
  go_wp2_with fail
  go_loopg [5, 6, 7] 0 (fun g a b i wr => g = 0 /\ a = .slice none 0 0 /\ b = .slice none 0 0 /\ i = .int .i64 0 /\ w = wr)
  case atStart => exact ⟨rfl, rfl, rfl, rfl, rfl⟩
  case round =>
   obtain ⟨rfl, rfl, rfl, rfl, rfl⟩ := hrel
   go_wp2_with fail
   go_loopg [10] 0 (fun g i wr => g = 0 /\ i = .int .i64 0 /\ w = wr)
   case atStart => exact ⟨rfl, rfl, rfl⟩
   case round =>
    obtain ⟨rfl, rfl, rfl⟩ := hrel
    go_wp2_with fail
    go_ret
    exact ⟨rfl, rfl⟩
set_option maxRecDepth 100000 in
theorem apartCos_nil (gb : Nat) (w : World) (h : w.cell? ⟨gb, 6, none⟩ = some (.slice none 0 0)) :
  Calls Tryz.prog 67 #[.pointer (some ⟨gb, 0, none⟩)] w fun e w' => e = .returned (.bool true) /\ w' = w := by
 go_enter Tryz.func67, Tryz.ntmps67
 go_wp2_with fail
 go_loopg [3] 0 (fun g i wr => g = 0 /\ i = .int .i64 0 /\ w = wr)
 case atStart => exact ⟨rfl, rfl, rfl⟩
 case round =>
  obtain ⟨rfl, rfl, rfl⟩ := hrel
  go_wp2_with fail
  go_loopg [5, 6, 7] 0 (fun g a b i wr => g = 0 /\ a = .slice none 0 0 /\ b = .slice none 0 0 /\ i = .int .i64 0 /\ w = wr)
  case atStart => exact ⟨rfl, rfl, rfl, rfl, rfl⟩
  case round =>
   obtain ⟨rfl, rfl, rfl, rfl, rfl⟩ := hrel
   go_wp2_with fail
   go_loopg [10] 0 (fun g i wr => g = 0 /\ i = .int .i64 0 /\ w = wr)
   case atStart => exact ⟨rfl, rfl, rfl⟩
   case round =>
    obtain ⟨rfl, rfl, rfl⟩ := hrel
    go_wp2_with fail
    go_ret
    exact ⟨rfl, rfl⟩
set_option maxRecDepth 100000 in
theorem apartSeen_nil (gb : Nat) (w : World) (h : w.cell? ⟨gb, 7, none⟩ = some (.slice none 0 0)) :
  Calls Tryz.prog 68 #[.pointer (some ⟨gb, 0, none⟩)] w fun e w' => e = .returned (.bool true) /\ w' = w := by
 go_enter Tryz.func68, Tryz.ntmps68
 go_wp2_with fail
 go_loopg [3] 0 (fun g i wr => g = 0 /\ i = .int .i64 0 /\ w = wr)
 case atStart => exact ⟨rfl, rfl, rfl⟩
 case round =>
  obtain ⟨rfl, rfl, rfl⟩ := hrel
  go_wp2_with fail
  go_loopg [5, 6, 7] 0 (fun g a b i wr => g = 0 /\ a = .slice none 0 0 /\ b = .slice none 0 0 /\ i = .int .i64 0 /\ w = wr)
  case atStart => exact ⟨rfl, rfl, rfl, rfl, rfl⟩
  case round =>
   obtain ⟨rfl, rfl, rfl, rfl, rfl⟩ := hrel
   go_wp2_with fail
   go_loopg [10] 0 (fun g i wr => g = 0 /\ i = .int .i64 0 /\ w = wr)
   case atStart => exact ⟨rfl, rfl, rfl⟩
   case round =>
    obtain ⟨rfl, rfl, rfl⟩ := hrel
    go_wp2_with fail
    go_ret
    exact ⟨rfl, rfl⟩
set_option maxRecDepth 100000 in
theorem apartSites_nil (gb : Nat) (w : World) (h : w.cell? ⟨gb, 8, none⟩ = some (.slice none 0 0)) :
  Calls Tryz.prog 69 #[.pointer (some ⟨gb, 0, none⟩)] w fun e w' => e = .returned (.bool true) /\ w' = w := by
 go_enter Tryz.func69, Tryz.ntmps69
 go_wp2_with fail
 go_loopg [3] 0 (fun g i wr => g = 0 /\ i = .int .i64 0 /\ w = wr)
 case atStart => exact ⟨rfl, rfl, rfl⟩
 case round =>
  obtain ⟨rfl, rfl, rfl⟩ := hrel
  go_wp2_with fail
  go_loopg [5, 6, 7] 0 (fun g a b i wr => g = 0 /\ a = .slice none 0 0 /\ b = .slice none 0 0 /\ i = .int .i64 0 /\ w = wr)
  case atStart => exact ⟨rfl, rfl, rfl, rfl, rfl⟩
  case round =>
   obtain ⟨rfl, rfl, rfl, rfl, rfl⟩ := hrel
   go_wp2_with fail
   go_loopg [10] 0 (fun g i wr => g = 0 /\ i = .int .i64 0 /\ w = wr)
   case atStart => exact ⟨rfl, rfl, rfl⟩
   case round =>
    obtain ⟨rfl, rfl, rfl⟩ := hrel
    go_wp2_with fail
    go_ret
    exact ⟨rfl, rfl⟩
set_option maxRecDepth 100000 in
theorem apartIns_nil (gb : Nat) (w : World) (h : w.cell? ⟨gb, 9, none⟩ = some (.slice none 0 0)) :
  Calls Tryz.prog 70 #[.pointer (some ⟨gb, 0, none⟩)] w fun e w' => e = .returned (.bool true) /\ w' = w := by
 go_enter Tryz.func70, Tryz.ntmps70
 go_wp2_with fail
 go_loopg [3] 0 (fun g i wr => g = 0 /\ i = .int .i64 0 /\ w = wr)
 case atStart => exact ⟨rfl, rfl, rfl⟩
 case round =>
  obtain ⟨rfl, rfl, rfl⟩ := hrel
  go_wp2_with fail
  go_loopg [5, 6, 7] 0 (fun g a b i wr => g = 0 /\ a = .slice none 0 0 /\ b = .slice none 0 0 /\ i = .int .i64 0 /\ w = wr)
  case atStart => exact ⟨rfl, rfl, rfl, rfl, rfl⟩
  case round =>
   obtain ⟨rfl, rfl, rfl, rfl, rfl⟩ := hrel
   go_wp2_with fail
   go_loopg [10] 0 (fun g i wr => g = 0 /\ i = .int .i64 0 /\ w = wr)
   case atStart => exact ⟨rfl, rfl, rfl⟩
   case round =>
    obtain ⟨rfl, rfl, rfl⟩ := hrel
    go_wp2_with fail
    go_ret
    exact ⟨rfl, rfl⟩
set_option maxRecDepth 100000 in
theorem apartImports_nil (gb : Nat) (w : World) (h : w.cell? ⟨gb, 10, none⟩ = some (.slice none 0 0)) :
  Calls Tryz.prog 71 #[.pointer (some ⟨gb, 0, none⟩)] w fun e w' => e = .returned (.bool true) /\ w' = w := by
 go_enter Tryz.func71, Tryz.ntmps71
 go_wp2_with fail
 go_loopg [3] 0 (fun g i wr => g = 0 /\ i = .int .i64 0 /\ w = wr)
 case atStart => exact ⟨rfl, rfl, rfl⟩
 case round =>
  obtain ⟨rfl, rfl, rfl⟩ := hrel
  go_wp2_with fail
  go_loopg [5, 6, 7] 0 (fun g a b i wr => g = 0 /\ a = .slice none 0 0 /\ b = .slice none 0 0 /\ i = .int .i64 0 /\ w = wr)
  case atStart => exact ⟨rfl, rfl, rfl, rfl, rfl⟩
  case round =>
   obtain ⟨rfl, rfl, rfl, rfl, rfl⟩ := hrel
   go_wp2_with fail
   go_loopg [10] 0 (fun g i wr => g = 0 /\ i = .int .i64 0 /\ w = wr)
   case atStart => exact ⟨rfl, rfl, rfl⟩
   case round =>
    obtain ⟨rfl, rfl, rfl⟩ := hrel
    go_wp2_with fail
    go_ret
    exact ⟨rfl, rfl⟩
set_option maxRecDepth 100000 in
theorem apartTraps_nil (gb : Nat) (w : World) (h : w.cell? ⟨gb, 11, none⟩ = some (.slice none 0 0)) :
  Calls Tryz.prog 72 #[.pointer (some ⟨gb, 0, none⟩)] w fun e w' => e = .returned (.bool true) /\ w' = w := by
 go_enter Tryz.func72, Tryz.ntmps72
 go_wp2_with fail
 go_loopg [3] 0 (fun g i wr => g = 0 /\ i = .int .i64 0 /\ w = wr)
 case atStart => exact ⟨rfl, rfl, rfl⟩
 case round =>
  obtain ⟨rfl, rfl, rfl⟩ := hrel
  go_wp2_with fail
  go_loopg [5, 6, 7] 0 (fun g a b i wr => g = 0 /\ a = .slice none 0 0 /\ b = .slice none 0 0 /\ i = .int .i64 0 /\ w = wr)
  case atStart => exact ⟨rfl, rfl, rfl, rfl, rfl⟩
  case round =>
   obtain ⟨rfl, rfl, rfl, rfl, rfl⟩ := hrel
   go_wp2_with fail
   go_loopg [10] 0 (fun g i wr => g = 0 /\ i = .int .i64 0 /\ w = wr)
   case atStart => exact ⟨rfl, rfl, rfl⟩
   case round =>
    obtain ⟨rfl, rfl, rfl⟩ := hrel
    go_wp2_with fail
    go_ret
    exact ⟨rfl, rfl⟩
set_option maxRecDepth 100000 in
theorem apartRows_nil (gb : Nat) (w : World) (h : w.cell? ⟨gb, 12, none⟩ = some (.slice none 0 0)) :
  Calls Tryz.prog 73 #[.pointer (some ⟨gb, 0, none⟩)] w fun e w' => e = .returned (.bool true) /\ w' = w := by
 go_enter Tryz.func73, Tryz.ntmps73
 go_wp2_with fail
 go_loopg [3] 0 (fun g i wr => g = 0 /\ i = .int .i64 0 /\ w = wr)
 case atStart => exact ⟨rfl, rfl, rfl⟩
 case round =>
  obtain ⟨rfl, rfl, rfl⟩ := hrel
  go_wp2_with fail
  go_loopg [5, 6, 7] 0 (fun g a b i wr => g = 0 /\ a = .slice none 0 0 /\ b = .slice none 0 0 /\ i = .int .i64 0 /\ w = wr)
  case atStart => exact ⟨rfl, rfl, rfl, rfl, rfl⟩
  case round =>
   obtain ⟨rfl, rfl, rfl, rfl, rfl⟩ := hrel
   go_wp2_with fail
   go_loopg [10] 0 (fun g i wr => g = 0 /\ i = .int .i64 0 /\ w = wr)
   case atStart => exact ⟨rfl, rfl, rfl⟩
   case round =>
    obtain ⟨rfl, rfl, rfl⟩ := hrel
    go_wp2_with fail
    go_ret
    exact ⟨rfl, rfl⟩
set_option maxRecDepth 100000 in
theorem apartDefs_nil (gb : Nat) (w : World) (h : w.cell? ⟨gb, 13, none⟩ = some (.slice none 0 0)) :
  Calls Tryz.prog 74 #[.pointer (some ⟨gb, 0, none⟩)] w fun e w' => e = .returned (.bool true) /\ w' = w := by
 go_enter Tryz.func74, Tryz.ntmps74
 go_wp2_with fail
 go_loopg [3] 0 (fun g i wr => g = 0 /\ i = .int .i64 0 /\ w = wr)
 case atStart => exact ⟨rfl, rfl, rfl⟩
 case round =>
  obtain ⟨rfl, rfl, rfl⟩ := hrel
  go_wp2_with fail
  go_loopg [5, 6, 7] 0 (fun g a b i wr => g = 0 /\ a = .slice none 0 0 /\ b = .slice none 0 0 /\ i = .int .i64 0 /\ w = wr)
  case atStart => exact ⟨rfl, rfl, rfl, rfl, rfl⟩
  case round =>
   obtain ⟨rfl, rfl, rfl, rfl, rfl⟩ := hrel
   go_wp2_with fail
   go_loopg [10] 0 (fun g i wr => g = 0 /\ i = .int .i64 0 /\ w = wr)
   case atStart => exact ⟨rfl, rfl, rfl⟩
   case round =>
    obtain ⟨rfl, rfl, rfl⟩ := hrel
    go_wp2_with fail
    go_ret
    exact ⟨rfl, rfl⟩
set_option maxRecDepth 100000 in
theorem apartModules_nil (gb : Nat) (w : World) (h : w.cell? ⟨gb, 14, none⟩ = some (.slice none 0 0)) :
  Calls Tryz.prog 75 #[.pointer (some ⟨gb, 0, none⟩)] w fun e w' => e = .returned (.bool true) /\ w' = w := by
 go_enter Tryz.func75, Tryz.ntmps75
 go_wp2_with fail
 go_loopg [3] 0 (fun g i wr => g = 0 /\ i = .int .i64 0 /\ w = wr)
 case atStart => exact ⟨rfl, rfl, rfl⟩
 case round =>
  obtain ⟨rfl, rfl, rfl⟩ := hrel
  go_wp2_with fail
  go_loopg [5, 6, 7] 0 (fun g a b i wr => g = 0 /\ a = .slice none 0 0 /\ b = .slice none 0 0 /\ i = .int .i64 0 /\ w = wr)
  case atStart => exact ⟨rfl, rfl, rfl, rfl, rfl⟩
  case round =>
   obtain ⟨rfl, rfl, rfl, rfl, rfl⟩ := hrel
   go_wp2_with fail
   go_loopg [10] 0 (fun g i wr => g = 0 /\ i = .int .i64 0 /\ w = wr)
   case atStart => exact ⟨rfl, rfl, rfl⟩
   case round =>
    obtain ⟨rfl, rfl, rfl⟩ := hrel
    go_wp2_with fail
    go_ret
    exact ⟨rfl, rfl⟩
set_option maxRecDepth 100000 in
theorem apartFunctions_nil (gb : Nat) (w : World) (h : w.cell? ⟨gb, 15, none⟩ = some (.slice none 0 0)) :
  Calls Tryz.prog 76 #[.pointer (some ⟨gb, 0, none⟩)] w fun e w' => e = .returned (.bool true) /\ w' = w := by
 go_enter Tryz.func76, Tryz.ntmps76
 go_wp2_with fail
 go_loopg [3] 0 (fun g i wr => g = 0 /\ i = .int .i64 0 /\ w = wr)
 case atStart => exact ⟨rfl, rfl, rfl⟩
 case round =>
  obtain ⟨rfl, rfl, rfl⟩ := hrel
  go_wp2_with fail
  go_loopg [5, 6, 7] 0 (fun g a b i wr => g = 0 /\ a = .slice none 0 0 /\ b = .slice none 0 0 /\ i = .int .i64 0 /\ w = wr)
  case atStart => exact ⟨rfl, rfl, rfl, rfl, rfl⟩
  case round =>
   obtain ⟨rfl, rfl, rfl, rfl, rfl⟩ := hrel
   go_wp2_with fail
   go_loopg [10] 0 (fun g i wr => g = 0 /\ i = .int .i64 0 /\ w = wr)
   case atStart => exact ⟨rfl, rfl, rfl⟩
   case round =>
    obtain ⟨rfl, rfl, rfl⟩ := hrel
    go_wp2_with fail
    go_ret
    exact ⟨rfl, rfl⟩
set_option maxRecDepth 100000 in
theorem apartWaits_nil (gb : Nat) (w : World) (h : w.cell? ⟨gb, 16, none⟩ = some (.slice none 0 0)) :
  Calls Tryz.prog 77 #[.pointer (some ⟨gb, 0, none⟩)] w fun e w' => e = .returned (.bool true) /\ w' = w := by
 go_enter Tryz.func77, Tryz.ntmps77
 go_wp2_with fail
 go_loopg [3] 0 (fun g i wr => g = 0 /\ i = .int .i64 0 /\ w = wr)
 case atStart => exact ⟨rfl, rfl, rfl⟩
 case round =>
  obtain ⟨rfl, rfl, rfl⟩ := hrel
  go_wp2_with fail
  go_loopg [5, 6, 7] 0 (fun g a b i wr => g = 0 /\ a = .slice none 0 0 /\ b = .slice none 0 0 /\ i = .int .i64 0 /\ w = wr)
  case atStart => exact ⟨rfl, rfl, rfl, rfl, rfl⟩
  case round =>
   obtain ⟨rfl, rfl, rfl, rfl, rfl⟩ := hrel
   go_wp2_with fail
   go_loopg [10] 0 (fun g i wr => g = 0 /\ i = .int .i64 0 /\ w = wr)
   case atStart => exact ⟨rfl, rfl, rfl⟩
   case round =>
    obtain ⟨rfl, rfl, rfl⟩ := hrel
    go_wp2_with fail
    go_ret
    exact ⟨rfl, rfl⟩
set_option maxRecDepth 100000 in
theorem apartTrees_nil (gb : Nat) (w : World) (h : w.cell? ⟨gb, 17, none⟩ = some (.slice none 0 0)) :
  Calls Tryz.prog 78 #[.pointer (some ⟨gb, 0, none⟩)] w fun e w' => e = .returned (.bool true) /\ w' = w := by
 go_enter Tryz.func78, Tryz.ntmps78
 go_wp2_with fail
 go_loopg [3] 0 (fun g i wr => g = 0 /\ i = .int .i64 0 /\ w = wr)
 case atStart => exact ⟨rfl, rfl, rfl⟩
 case round =>
  obtain ⟨rfl, rfl, rfl⟩ := hrel
  go_wp2_with fail
  go_loopg [5, 6, 7] 0 (fun g a b i wr => g = 0 /\ a = .slice none 0 0 /\ b = .slice none 0 0 /\ i = .int .i64 0 /\ w = wr)
  case atStart => exact ⟨rfl, rfl, rfl, rfl, rfl⟩
  case round =>
   obtain ⟨rfl, rfl, rfl, rfl, rfl⟩ := hrel
   go_wp2_with fail
   go_loopg [10] 0 (fun g i wr => g = 0 /\ i = .int .i64 0 /\ w = wr)
   case atStart => exact ⟨rfl, rfl, rfl⟩
   case round =>
    obtain ⟨rfl, rfl, rfl⟩ := hrel
    go_wp2_with fail
    go_ret
    exact ⟨rfl, rfl⟩
set_option maxRecDepth 100000 in
/-- Apart, kind by kind. -/
theorem apart_chain (I : Nat -> World -> Prop) (gb : Nat) (w : World) (h0 : I 0 w)
  (h_Bytes : ∀ W, I 0 W -> Calls Tryz.prog 61 #[.pointer (some ⟨gb, 0, none⟩)] W fun e w' => e = .returned (.bool true) /\ I 1 w')
  (h_Ints : ∀ W, I 1 W -> Calls Tryz.prog 62 #[.pointer (some ⟨gb, 0, none⟩)] W fun e w' => e = .returned (.bool true) /\ I 2 w')
  (h_Longs : ∀ W, I 2 W -> Calls Tryz.prog 63 #[.pointer (some ⟨gb, 0, none⟩)] W fun e w' => e = .returned (.bool true) /\ I 3 w')
  (h_Bools : ∀ W, I 3 W -> Calls Tryz.prog 64 #[.pointer (some ⟨gb, 0, none⟩)] W fun e w' => e = .returned (.bool true) /\ I 4 w')
  (h_Texts : ∀ W, I 4 W -> Calls Tryz.prog 65 #[.pointer (some ⟨gb, 0, none⟩)] W fun e w' => e = .returned (.bool true) /\ I 5 w')
  (h_Nodes : ∀ W, I 5 W -> Calls Tryz.prog 66 #[.pointer (some ⟨gb, 0, none⟩)] W fun e w' => e = .returned (.bool true) /\ I 6 w')
  (h_Cos : ∀ W, I 6 W -> Calls Tryz.prog 67 #[.pointer (some ⟨gb, 0, none⟩)] W fun e w' => e = .returned (.bool true) /\ I 7 w')
  (h_Seen : ∀ W, I 7 W -> Calls Tryz.prog 68 #[.pointer (some ⟨gb, 0, none⟩)] W fun e w' => e = .returned (.bool true) /\ I 8 w')
  (h_Sites : ∀ W, I 8 W -> Calls Tryz.prog 69 #[.pointer (some ⟨gb, 0, none⟩)] W fun e w' => e = .returned (.bool true) /\ I 9 w')
  (h_Ins : ∀ W, I 9 W -> Calls Tryz.prog 70 #[.pointer (some ⟨gb, 0, none⟩)] W fun e w' => e = .returned (.bool true) /\ I 10 w')
  (h_Imports : ∀ W, I 10 W -> Calls Tryz.prog 71 #[.pointer (some ⟨gb, 0, none⟩)] W fun e w' => e = .returned (.bool true) /\ I 11 w')
  (h_Traps : ∀ W, I 11 W -> Calls Tryz.prog 72 #[.pointer (some ⟨gb, 0, none⟩)] W fun e w' => e = .returned (.bool true) /\ I 12 w')
  (h_Rows : ∀ W, I 12 W -> Calls Tryz.prog 73 #[.pointer (some ⟨gb, 0, none⟩)] W fun e w' => e = .returned (.bool true) /\ I 13 w')
  (h_Defs : ∀ W, I 13 W -> Calls Tryz.prog 74 #[.pointer (some ⟨gb, 0, none⟩)] W fun e w' => e = .returned (.bool true) /\ I 14 w')
  (h_Modules : ∀ W, I 14 W -> Calls Tryz.prog 75 #[.pointer (some ⟨gb, 0, none⟩)] W fun e w' => e = .returned (.bool true) /\ I 15 w')
  (h_Functions : ∀ W, I 15 W -> Calls Tryz.prog 76 #[.pointer (some ⟨gb, 0, none⟩)] W fun e w' => e = .returned (.bool true) /\ I 16 w')
  (h_Waits : ∀ W, I 16 W -> Calls Tryz.prog 77 #[.pointer (some ⟨gb, 0, none⟩)] W fun e w' => e = .returned (.bool true) /\ I 17 w')
  (h_Trees : ∀ W, I 17 W -> Calls Tryz.prog 78 #[.pointer (some ⟨gb, 0, none⟩)] W fun e w' => e = .returned (.bool true) /\ I 18 w') :
  Calls Tryz.prog 21 #[.pointer (some ⟨gb, 0, none⟩)] w fun e w' => e = .returned (.bool true) /\ I 18 w' := by
 have HBytes := Lib.hid h_Bytes
 have HInts := Lib.hid h_Ints
 have HLongs := Lib.hid h_Longs
 have HBools := Lib.hid h_Bools
 have HTexts := Lib.hid h_Texts
 have HNodes := Lib.hid h_Nodes
 have HCos := Lib.hid h_Cos
 have HSeen := Lib.hid h_Seen
 have HSites := Lib.hid h_Sites
 have HIns := Lib.hid h_Ins
 have HImports := Lib.hid h_Imports
 have HTraps := Lib.hid h_Traps
 have HRows := Lib.hid h_Rows
 have HDefs := Lib.hid h_Defs
 have HModules := Lib.hid h_Modules
 have HFunctions := Lib.hid h_Functions
 have HWaits := Lib.hid h_Waits
 have HTrees := Lib.hid h_Trees
 clear h_Bytes h_Ints h_Longs h_Bools h_Texts h_Nodes h_Cos h_Seen h_Sites h_Ins h_Imports h_Traps h_Rows h_Defs h_Modules h_Functions h_Waits h_Trees
 go_enter Tryz.func21, Tryz.ntmps21
 go_wp2_with fail
 refine (HBytes.out _ h0).mono ?_
 rintro e w1 ⟨rfl, i1⟩
 go_wp2_with fail
 refine (HInts.out _ i1).mono ?_
 rintro e w2 ⟨rfl, i2⟩
 go_wp2_with fail
 refine (HLongs.out _ i2).mono ?_
 rintro e w3 ⟨rfl, i3⟩
 go_wp2_with fail
 refine (HBools.out _ i3).mono ?_
 rintro e w4 ⟨rfl, i4⟩
 go_wp2_with fail
 refine (HTexts.out _ i4).mono ?_
 rintro e w5 ⟨rfl, i5⟩
 go_wp2_with fail
 refine (HNodes.out _ i5).mono ?_
 rintro e w6 ⟨rfl, i6⟩
 go_wp2_with fail
 refine (HCos.out _ i6).mono ?_
 rintro e w7 ⟨rfl, i7⟩
 go_wp2_with fail
 refine (HSeen.out _ i7).mono ?_
 rintro e w8 ⟨rfl, i8⟩
 go_wp2_with fail
 refine (HSites.out _ i8).mono ?_
 rintro e w9 ⟨rfl, i9⟩
 go_wp2_with fail
 refine (HIns.out _ i9).mono ?_
 rintro e w10 ⟨rfl, i10⟩
 go_wp2_with fail
 refine (HImports.out _ i10).mono ?_
 rintro e w11 ⟨rfl, i11⟩
 go_wp2_with fail
 refine (HTraps.out _ i11).mono ?_
 rintro e w12 ⟨rfl, i12⟩
 go_wp2_with fail
 refine (HRows.out _ i12).mono ?_
 rintro e w13 ⟨rfl, i13⟩
 go_wp2_with fail
 refine (HDefs.out _ i13).mono ?_
 rintro e w14 ⟨rfl, i14⟩
 go_wp2_with fail
 refine (HModules.out _ i14).mono ?_
 rintro e w15 ⟨rfl, i15⟩
 go_wp2_with fail
 refine (HFunctions.out _ i15).mono ?_
 rintro e w16 ⟨rfl, i16⟩
 go_wp2_with fail
 refine (HWaits.out _ i16).mono ?_
 rintro e w17 ⟨rfl, i17⟩
 go_wp2_with fail
 refine (HTrees.out _ i17).mono ?_
 rintro e w18 ⟨rfl, i18⟩
 go_wp2_with fail
 go_ret
 exact ⟨rfl, i18⟩
end Go.Proofs.YtobplngonkdbpaaGreatDoor.B
/- BgB -/
namespace Go.Proofs.YtobplngonkdbpaaGreatDoor.B
open Go.RowKit
open Go.Proofs.YtobplngonkdbpaaGreatDoor.D
set_option linter.unusedSimpArgs false
set_option linter.unusedVariables false
def Te (q : Nat) : TypeId := if q = 2 then 2 else if q = 4 then 9 else if q = 6 then 86 else if q = 9 then 92 else if q = 15 then 90 else 84
def Tz (q : Nat) : Nat := if q = 2 then 1 else if q = 4 then 1 else if q = 6 then 7 else if q = 9 then 3 else if q = 15 then 4 else 3
theorem te_ne {q q' : Nat} (h : Us q) (h' : Us q') (hne : q ≠ q') : Te q ≠ Te q' := by
 rcases h with rfl | rfl | rfl | rfl | rfl | rfl <;> rcases h' with rfl | rfl | rfl | rfl | rfl | rfl <;> first | exact absurd rfl hne | decide
def slLen (v : Value) : Nat := match v with | .slice _ n _ => n | _ => 0
/-- The bag's lists: each owned, no two of a kind in one block. -/
structure BagE (w : World) (gb base : Nat) (K : Nat -> List Value) : Prop where
 own : ∀ q, Us q -> ∀ v ∈ K q, ∃ xs, w.ownsRow base (Te q) (Tz q) v (slLen v) xs
 lt : ∀ q, Us q -> ∀ v ∈ K q, ∀ b, v.ownBlock = some b -> b < gb
 len : ∀ q, Us q -> ∀ v ∈ K q, slLen v <= 16777216
 ap : ∀ q, Us q -> (K q).Pairwise Ap
theorem But.mono {C C' : Nat -> Prop} {a b : World} (h : But C a b) (hC : ∀ k, C k -> C' k) : But C' a b := ⟨h.os, h.tape, h.output, h.size, fun k hk hc => h.block k hk fun hc' => hc (hC k hc')⟩
/-- The blocks of the kinds up to k. -/
def Ck (K : Nat -> List Value) (k b : Nat) : Prop := ∃ p, p < k /\ Us p /\ ∃ v ∈ K p, v.ownBlock = some b
theorem ck_mono {K : Nat -> List Value} {k k' b : Nat} (h : Ck K k b) (hk : k <= k') : Ck K k' b := by
 obtain ⟨p, h1, h2⟩ := h; exact ⟨p, by omega, h2⟩
theorem kind_cell {w W : World} {gb base q k : Nat} {K : Nat -> List Value} (h : BagS w gb K) (he : BagE w gb base K) (hq : q < 18) (hu : ¬ Us q) (hI : But (Ck K k) w W) : W.cell? ⟨gb, q, none⟩ = some (.slice none 0 0) := by
 obtain ⟨f, hr, hf⟩ := h.row
 have hr' := hr.of_block (hI.block gb hr.lt fun ⟨p, _, hp, v, hv, hb⟩ => by have := he.lt p hp v hv gb hb; omega)
 rcases hf q hq with ⟨h1, _⟩ | ⟨h1, _⟩
 · rw [hr'.cell hq, h1]
 · exact absurd h1 hu
theorem kind_ready {w W : World} {gb base q : Nat} {K : Nat -> List Value} (h : BagS w gb K) (he : BagE w gb base K) (hu : Us q) (hI : But (Ck K q) w W) (hbs : base <= w.heap.size) :
  W.cell? ⟨gb, q, none⟩ = some (.slice none 0 0) \/ ∃ ob oc, Shelfed gb q (K q).length W ob oc (fun m => (K q).getD m default) W /\ gb < W.heap.size /\ ob < W.heap.size /\
   (∀ m, m < (K q).length -> ((K q).getD m default).ownBlock ≠ some gb) /\ (∀ m, m < (K q).length -> ((K q).getD m default).ownBlock ≠ some ob) /\
   (∀ m, m < (K q).length -> ∃ xs, W.ownsRow base (Te q) (Tz q) ((K q).getD m default) (slLen ((K q).getD m default)) xs) /\
   (∀ i j, i < (K q).length -> j < (K q).length -> i ≠ j -> Ap ((K q).getD i default) ((K q).getD j default)) /\ base <= W.heap.size /\ (K q).length <= 300 /\
   ∀ m, m < (K q).length -> slLen ((K q).getD m default) <= 16777216 := by
 obtain ⟨f, hr, ho, hf⟩ := h.kind hu
 have hgb : ¬ Ck K q gb := fun ⟨p, _, hp, v, hv, hb⟩ => by have := he.lt p hp v hv gb hb; omega
 have hr' := hr.of_block (hI.block gb hr.lt hgb)
 have hc := hr'.cell (us_lt hu)
 have hat : ∀ m, m < (K q).length -> ∃ v ∈ K q, (K q).getD m default = v := fun m hm => ⟨(K q)[m], List.getElem_mem hm, by rw [List.getD_eq_getElem?_getD, List.getElem?_eq_getElem hm]; rfl⟩
 rcases ho.2 with ⟨h1, h2⟩ | ⟨ob, cap, cur, h1, h2, h3, h4, h5, h6, h7⟩
 · left; rw [hc, h1]
 ·
  right
  have hob : ob < w.heap.size := (Array.getElem?_eq_some_iff.1 h3).1
  have hnb : ¬ Ck K q ob := fun ⟨p, _, hp, v, hv, hb⟩ => by have := he.lt p hp v hv ob hb; omega
  have hown' : W.ownsRow (gb + 1) (TLof q) 1 (f q) (K q).length (K q) := own_at ho fun b hb => by
   rw [h1] at hb; injection hb with hb; subst hb; exact hI.block _ hob hnb
  refine ⟨ob, cap, ⟨by rw [hc, h1], fun m hm => ?_⟩, Nat.lt_of_lt_of_le hr.lt hI.size, Nat.lt_of_lt_of_le hob hI.size, fun m hm e => ?_, fun m hm e => ?_, fun m hm => ?_, fun i j hi hj hne => ?_, Nat.le_trans hbs hI.size, h.len q, fun m hm => ?_⟩
  ·
   have := hown'.cells (g := ob) (by rw [h1]; rfl) m ((K q)[m]) (List.getElem?_eq_getElem hm)
   rw [add_flat, Nat.zero_add] at this
   rw [this, List.getD_eq_getElem?_getD, List.getElem?_eq_getElem hm]; rfl
  ·
   obtain ⟨v, hv, hm'⟩ := hat m hm
   rw [hm'] at e
   have := he.lt q hu v hv gb e; omega
  ·
   obtain ⟨v, hv, hm'⟩ := hat m hm
   rw [hm'] at e
   have := he.lt q hu v hv ob e; omega
  ·
   obtain ⟨v, hv, hm'⟩ := hat m hm
   rw [hm']
   obtain ⟨xs, hx⟩ := he.own q hu v hv
   refine ⟨xs, own_at hx fun b hb => hI.block b (hx.lt b hb).2 ?_⟩
   rintro ⟨p, hp, hpu, v', hv', hb'⟩
   obtain ⟨xs', hx'⟩ := he.own p hpu v' hv'
   exact own_ne hx hx' (te_ne hu hpu (by omega)) b hb hb'
  ·
   rw [List.getD_eq_getElem?_getD, List.getD_eq_getElem?_getD, List.getElem?_eq_getElem hi, List.getElem?_eq_getElem hj]
   show Ap (K q)[i] (K q)[j]
   rcases Nat.lt_or_gt_of_ne hne with hlt | hlt
   · exact List.pairwise_iff_getElem.1 (he.ap q hu) i j hi hj hlt
   · exact (List.pairwise_iff_getElem.1 (he.ap q hu) j i hj hi hlt).symm
  ·
   obtain ⟨v, hv, hm'⟩ := hat m hm
   rw [hm']; exact he.len q hu v hv
theorem ck_next {K : Nat -> List Value} {q : Nat} (hu : Us q) {w W w' : World} (hI : But (Ck K q) w W) (hb : But (fun k => ∃ m, m < (K q).length /\ ((K q).getD m default).ownBlock = some k) W w') : But (Ck K (q + 1)) w w' := by
 refine (hI.mono fun k hk => ck_mono hk (by omega)).trans hb ?_
 rintro k _ ⟨m, hm, e⟩
 rw [List.getD_eq_getElem?_getD, List.getElem?_eq_getElem hm] at e
 exact ⟨q, by omega, hu, _, List.getElem_mem hm, e⟩
theorem kindLongs (w0 : World) (ht : T.Tab w0) (gb base : Nat) (K : Nat -> List Value) (w W : World) (h : BagS w gb K) (he : BagE w gb base K) (hw0 : Below w0.heap.size w0 w) (hb0 : w0.heap.size <= base) (hbs : base <= w.heap.size) (hI : But (Ck K 2) w W) :
  Calls Tryz.prog 63 #[.pointer (some ⟨gb, 0, none⟩)] W fun e w' => e = .returned (.bool true) /\ But (Ck K (2 + 1)) w w' := by
 have hu : Us 2 := by unfold Us; omega
 rcases kind_ready h he hu hI hbs with hc | ⟨ob, oc, k1, k2, k3, k4, k5, k6, k7, k8, k9, k10⟩
 · exact (apartLongs_nil gb W hc).mono fun e w' h => ⟨h.1, by rw [h.2]; exact hI.mono fun k hk => ck_mono hk (by omega)⟩
 · exact (apartLongs_any gb base _ ob oc _ (fun m => slLen ((K 2).getD m default)) W k1 k2 k3 k4 k5 k6 k7 k8 k9 (fun m hm => by have := k10 m hm; omega)).mono fun e w' h => ⟨h.1, ck_next hu hI h.2⟩
theorem kindTexts (w0 : World) (ht : T.Tab w0) (gb base : Nat) (K : Nat -> List Value) (w W : World) (h : BagS w gb K) (he : BagE w gb base K) (hw0 : Below w0.heap.size w0 w) (hb0 : w0.heap.size <= base) (hbs : base <= w.heap.size) (hI : But (Ck K 4) w W) :
  Calls Tryz.prog 65 #[.pointer (some ⟨gb, 0, none⟩)] W fun e w' => e = .returned (.bool true) /\ But (Ck K (4 + 1)) w w' := by
 have hu : Us 4 := by unfold Us; omega
 rcases kind_ready h he hu hI hbs with hc | ⟨ob, oc, k1, k2, k3, k4, k5, k6, k7, k8, k9, k10⟩
 · exact (apartTexts_nil gb W hc).mono fun e w' h => ⟨h.1, by rw [h.2]; exact hI.mono fun k hk => ck_mono hk (by omega)⟩
 · exact (apartTexts_any w0 ht gb base _ ob oc _ (fun m => slLen ((K 4).getD m default)) W k1 k2 k3 k4 k5 k6 k7 (hw0.trans (hI.below hw0.size fun k ⟨p, _, hp, v, hv, hb⟩ => by obtain ⟨xs, hx⟩ := he.own p hp v hv; have := (hx.lt k hb).1; omega)) hb0 k8 k9 (fun m hm => by have := k10 m hm; omega)).mono fun e w' h => ⟨h.1, ck_next hu hI h.2⟩
theorem kindCos (w0 : World) (ht : T.Tab w0) (gb base : Nat) (K : Nat -> List Value) (w W : World) (h : BagS w gb K) (he : BagE w gb base K) (hw0 : Below w0.heap.size w0 w) (hb0 : w0.heap.size <= base) (hbs : base <= w.heap.size) (hI : But (Ck K 6) w W) :
  Calls Tryz.prog 67 #[.pointer (some ⟨gb, 0, none⟩)] W fun e w' => e = .returned (.bool true) /\ But (Ck K (6 + 1)) w w' := by
 have hu : Us 6 := by unfold Us; omega
 rcases kind_ready h he hu hI hbs with hc | ⟨ob, oc, k1, k2, k3, k4, k5, k6, k7, k8, k9, k10⟩
 · exact (apartCos_nil gb W hc).mono fun e w' h => ⟨h.1, by rw [h.2]; exact hI.mono fun k hk => ck_mono hk (by omega)⟩
 · exact (apartCos_any gb base _ ob oc _ (fun m => slLen ((K 6).getD m default)) W k1 k2 k3 k4 k5 k6 k7 k8 k9 (fun m hm => by have := k10 m hm; omega)).mono fun e w' h => ⟨h.1, ck_next hu hI h.2⟩
theorem kindIns (w0 : World) (ht : T.Tab w0) (gb base : Nat) (K : Nat -> List Value) (w W : World) (h : BagS w gb K) (he : BagE w gb base K) (hw0 : Below w0.heap.size w0 w) (hb0 : w0.heap.size <= base) (hbs : base <= w.heap.size) (hI : But (Ck K 9) w W) :
  Calls Tryz.prog 70 #[.pointer (some ⟨gb, 0, none⟩)] W fun e w' => e = .returned (.bool true) /\ But (Ck K (9 + 1)) w w' := by
 have hu : Us 9 := by unfold Us; omega
 rcases kind_ready h he hu hI hbs with hc | ⟨ob, oc, k1, k2, k3, k4, k5, k6, k7, k8, k9, k10⟩
 · exact (apartIns_nil gb W hc).mono fun e w' h => ⟨h.1, by rw [h.2]; exact hI.mono fun k hk => ck_mono hk (by omega)⟩
 · exact (apartIns_any gb base _ ob oc _ (fun m => slLen ((K 9).getD m default)) W k1 k2 k3 k4 k5 k6 k7 k8 k9 (fun m hm => by have := k10 m hm; omega)).mono fun e w' h => ⟨h.1, ck_next hu hI h.2⟩
theorem kindFunctions (w0 : World) (ht : T.Tab w0) (gb base : Nat) (K : Nat -> List Value) (w W : World) (h : BagS w gb K) (he : BagE w gb base K) (hw0 : Below w0.heap.size w0 w) (hb0 : w0.heap.size <= base) (hbs : base <= w.heap.size) (hI : But (Ck K 15) w W) :
  Calls Tryz.prog 76 #[.pointer (some ⟨gb, 0, none⟩)] W fun e w' => e = .returned (.bool true) /\ But (Ck K (15 + 1)) w w' := by
 have hu : Us 15 := by unfold Us; omega
 rcases kind_ready h he hu hI hbs with hc | ⟨ob, oc, k1, k2, k3, k4, k5, k6, k7, k8, k9, k10⟩
 · exact (apartFunctions_nil gb W hc).mono fun e w' h => ⟨h.1, by rw [h.2]; exact hI.mono fun k hk => ck_mono hk (by omega)⟩
 · exact (apartFunctions_any w0 ht gb base _ ob oc _ (fun m => slLen ((K 15).getD m default)) W k1 k2 k3 k4 k5 k6 k7 (hw0.trans (hI.below hw0.size fun k ⟨p, _, hp, v, hv, hb⟩ => by obtain ⟨xs, hx⟩ := he.own p hp v hv; have := (hx.lt k hb).1; omega)) hb0 k8 k9 (fun m hm => by have := k10 m hm; omega)).mono fun e w' h => ⟨h.1, ck_next hu hI h.2⟩
theorem kindWaits (w0 : World) (ht : T.Tab w0) (gb base : Nat) (K : Nat -> List Value) (w W : World) (h : BagS w gb K) (he : BagE w gb base K) (hw0 : Below w0.heap.size w0 w) (hb0 : w0.heap.size <= base) (hbs : base <= w.heap.size) (hI : But (Ck K 16) w W) :
  Calls Tryz.prog 77 #[.pointer (some ⟨gb, 0, none⟩)] W fun e w' => e = .returned (.bool true) /\ But (Ck K (16 + 1)) w w' := by
 have hu : Us 16 := by unfold Us; omega
 rcases kind_ready h he hu hI hbs with hc | ⟨ob, oc, k1, k2, k3, k4, k5, k6, k7, k8, k9, k10⟩
 · exact (apartWaits_nil gb W hc).mono fun e w' h => ⟨h.1, by rw [h.2]; exact hI.mono fun k hk => ck_mono hk (by omega)⟩
 · exact (apartWaits_any w0 ht gb base _ ob oc _ (fun m => slLen ((K 16).getD m default)) W k1 k2 k3 k4 k5 k6 k7 (hw0.trans (hI.below hw0.size fun k ⟨p, _, hp, v, hv, hb⟩ => by obtain ⟨xs, hx⟩ := he.own p hp v hv; have := (hx.lt k hb).1; omega)) hb0 k8 k9 (fun m hm => by have := k10 m hm; omega)).mono fun e w' h => ⟨h.1, ck_next hu hI h.2⟩
/-- Apart says so; nothing but the lists' blocks is touched. -/
theorem apart_bag (w0 : World) (ht : T.Tab w0) (gb base : Nat) (K : Nat -> List Value) (w : World) (h : BagS w gb K) (he : BagE w gb base K) (hw0 : Below w0.heap.size w0 w) (hb0 : w0.heap.size <= base) (hbs : base <= w.heap.size) :
  Calls Tryz.prog 21 #[.pointer (some ⟨gb, 0, none⟩)] w fun e w' => e = .returned (.bool true) /\ Below w0.heap.size w0 w' := by
 refine (apart_chain (fun k W => But (Ck K k) w W) gb w (But.refl _ _)
  (fun W hI => (apartBytes_nil gb W (kind_cell h he (by omega) (by unfold Us; omega) hI)).mono fun e w' h => ⟨h.1, by rw [h.2]; exact hI.mono fun k hk => ck_mono hk (by omega)⟩)
  (fun W hI => (apartInts_nil gb W (kind_cell h he (by omega) (by unfold Us; omega) hI)).mono fun e w' h => ⟨h.1, by rw [h.2]; exact hI.mono fun k hk => ck_mono hk (by omega)⟩)
  (fun W hI => kindLongs w0 ht gb base K w W h he hw0 hb0 hbs hI)
  (fun W hI => (apartBools_nil gb W (kind_cell h he (by omega) (by unfold Us; omega) hI)).mono fun e w' h => ⟨h.1, by rw [h.2]; exact hI.mono fun k hk => ck_mono hk (by omega)⟩)
  (fun W hI => kindTexts w0 ht gb base K w W h he hw0 hb0 hbs hI)
  (fun W hI => (apartNodes_nil gb W (kind_cell h he (by omega) (by unfold Us; omega) hI)).mono fun e w' h => ⟨h.1, by rw [h.2]; exact hI.mono fun k hk => ck_mono hk (by omega)⟩)
  (fun W hI => kindCos w0 ht gb base K w W h he hw0 hb0 hbs hI)
  (fun W hI => (apartSeen_nil gb W (kind_cell h he (by omega) (by unfold Us; omega) hI)).mono fun e w' h => ⟨h.1, by rw [h.2]; exact hI.mono fun k hk => ck_mono hk (by omega)⟩)
  (fun W hI => (apartSites_nil gb W (kind_cell h he (by omega) (by unfold Us; omega) hI)).mono fun e w' h => ⟨h.1, by rw [h.2]; exact hI.mono fun k hk => ck_mono hk (by omega)⟩)
  (fun W hI => kindIns w0 ht gb base K w W h he hw0 hb0 hbs hI)
  (fun W hI => (apartImports_nil gb W (kind_cell h he (by omega) (by unfold Us; omega) hI)).mono fun e w' h => ⟨h.1, by rw [h.2]; exact hI.mono fun k hk => ck_mono hk (by omega)⟩)
  (fun W hI => (apartTraps_nil gb W (kind_cell h he (by omega) (by unfold Us; omega) hI)).mono fun e w' h => ⟨h.1, by rw [h.2]; exact hI.mono fun k hk => ck_mono hk (by omega)⟩)
  (fun W hI => (apartRows_nil gb W (kind_cell h he (by omega) (by unfold Us; omega) hI)).mono fun e w' h => ⟨h.1, by rw [h.2]; exact hI.mono fun k hk => ck_mono hk (by omega)⟩)
  (fun W hI => (apartDefs_nil gb W (kind_cell h he (by omega) (by unfold Us; omega) hI)).mono fun e w' h => ⟨h.1, by rw [h.2]; exact hI.mono fun k hk => ck_mono hk (by omega)⟩)
  (fun W hI => (apartModules_nil gb W (kind_cell h he (by omega) (by unfold Us; omega) hI)).mono fun e w' h => ⟨h.1, by rw [h.2]; exact hI.mono fun k hk => ck_mono hk (by omega)⟩)
  (fun W hI => kindFunctions w0 ht gb base K w W h he hw0 hb0 hbs hI)
  (fun W hI => kindWaits w0 ht gb base K w W h he hw0 hb0 hbs hI)
  (fun W hI => (apartTrees_nil gb W (kind_cell h he (by omega) (by unfold Us; omega) hI)).mono fun e w' h => ⟨h.1, by rw [h.2]; exact hI.mono fun k hk => ck_mono hk (by omega)⟩)).mono fun e w' hh => ⟨hh.1, hw0.trans (hh.2.below hw0.size fun k ⟨p, _, hp, v, hv, hb⟩ => by obtain ⟨xs, hx⟩ := he.own p hp v hv; have := (hx.lt k hb).1; omega)⟩
end Go.Proofs.YtobplngonkdbpaaGreatDoor.B
