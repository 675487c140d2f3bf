/- prompterref14.words: the words of the operators. -/
import Derived.Test.YtcpjjnikehcleaaProg
import Derived.Below
import Derived.Deep.Draws
import Derived.Deep.AppendLies
import Derived.Maps.AppendAt
import Derived.OwnWalk
import Derived.Laws.BytesArg
import Derived.Laws.MakeOwn
import Derived.Laws.OwnMore
import Derived.Deep.OwnRows
import Derived.Tactics
import Derived.Lib.ConvBytes
import Derived.Laws.Slices
import Derived.WalkKit
import Derived.KernelRfl
import Derived.RowKit3
import Derived.Deep.LoopGhost
import Derived.Deep.QuietTactic
import Derived.BigQuiet
import Derived.WideLaws
import Derived.Deep.DeepCutAuto
import Derived.Deep.CutBlock
import Derived.Deep.RegionHeld3
import Derived.Laws.Rows
import Derived.Lib.AppendStr
import Derived.ArgAppend
import Derived.Laws.IdiomCopy
import Derived.OrdersHeld
import Derived.Laws.BitsLemmas
import Derived.RowKit
import Derived.Test.YtcpjjnikehcleaaMo
namespace Go.Proofs.Ytcpjjnikehcleaa.Wd
open Go.RowKit Go.Proofs.YtcpjjnikehcleaaW.PrintWords Go.Proofs.YtcpjjnikehcleaaW.PrintLast Go.Proofs.YtcpjjnikehcleaaW.PrintMore
set_option linter.unusedVariables false
set_option linter.unusedSimpArgs false
def wordsT (a0 : Int) : Option ByteArray := if a0 = 32 then some (⟨#[101, 113]⟩ : ByteArray)
  else if a0 = 33 then some (⟨#[110, 101]⟩ : ByteArray)
  else if a0 = 34 then some (⟨#[108, 116]⟩ : ByteArray)
  else if a0 = 35 then some (⟨#[108, 101]⟩ : ByteArray)
  else if a0 = 36 then some (⟨#[97, 100, 100]⟩ : ByteArray)
  else if a0 = 37 then some (⟨#[115, 117, 98]⟩ : ByteArray)
  else if a0 = 38 then some (⟨#[109, 117, 108]⟩ : ByteArray)
  else if a0 = 39 then some (⟨#[100, 105, 118]⟩ : ByteArray)
  else if a0 = 40 then some (⟨#[109, 111, 100]⟩ : ByteArray)
  else if a0 = 41 then some (⟨#[110, 117, 109]⟩ : ByteArray)
  else if a0 = 42 then some (⟨#[97, 116]⟩ : ByteArray)
  else if a0 = 43 then some (⟨#[110, 111, 116]⟩ : ByteArray)
  else if a0 = 44 then some (⟨#[110, 101, 103]⟩ : ByteArray)
  else if a0 = 45 then some (⟨#[108, 101, 110]⟩ : ByteArray)
  else if a0 = 46 then some (⟨#[114, 101]⟩ : ByteArray)
  else if a0 = 47 then some (⟨#[105, 109]⟩ : ByteArray)
  else if a0 = 48 then some (⟨#[99, 111, 110, 106]⟩ : ByteArray)
  else none
theorem ex_32 : (⟨#[101, 113, 32, 32, 110, 101, 32, 32, 108, 116, 32, 32, 108, 101, 32, 32, 97, 100, 100, 32, 115, 117, 98, 32, 109, 117, 108, 32, 100, 105, 118, 32, 109, 111, 100, 32, 110, 117, 109, 32, 97, 116, 32, 32, 110, 111, 116, 32, 110, 101, 103, 32, 108, 101, 110, 32, 114, 101, 32, 32, 105, 109, 32, 32, 99, 111, 110, 106]⟩ : ByteArray).extract 0 4 = (⟨#[101, 113, 32, 32]⟩ : ByteArray) := by kernel_rfl
theorem ex_32_1 : (⟨#[101, 113, 32]⟩ : ByteArray).extract 0 2 = (⟨#[101, 113]⟩ : ByteArray) := by kernel_rfl
theorem ex_32_2 : (⟨#[101, 113, 32, 32]⟩ : ByteArray).extract 0 3 = (⟨#[101, 113, 32]⟩ : ByteArray) := by kernel_rfl
set_option maxHeartbeats 2000000 in
set_option maxRecDepth 100000 in
theorem words_32 (w : World) : Calls Try.prog 24 #[.int .u8 32] w fun e w' => e = .returned (.string (⟨#[101, 113]⟩ : ByteArray)) ∧ Below w.heap.size w w' := by
  have hex := ex_32
  have hex1 := ex_32_1
  have hex2 := ex_32_2
  go_enter Try.func24, Try.ntmps24
  go_wp2
  go_loopg [5] 2 (fun kq v5 w' => ((kq = 0 ∧ v5 = .string (⟨#[101, 113]⟩ : ByteArray)) ∨ (kq = 1 ∧ v5 = .string (⟨#[101, 113, 32]⟩ : ByteArray)) ∨ (kq = 2 ∧ v5 = .string (⟨#[101, 113, 32, 32]⟩ : ByteArray))) ∧ w' = w)
  case atStart => exact ⟨by simp [hex], rfl⟩
  case round =>
    obtain ⟨hv, rfl⟩ := hrel
    rcases hv with ⟨rfl, rfl⟩ | ⟨rfl, rfl⟩ | ⟨rfl, rfl⟩
    · go_wp2
      go_ret
      exact ⟨rfl, Below.refl _ _⟩
    · go_wp2
      go_roundg 0
      case measure => omega
      case rel => exact ⟨by simp [hex1], rfl⟩
    · go_wp2
      go_roundg 1
      case measure => omega
      case rel => exact ⟨by simp [hex2], rfl⟩
theorem ex_33 : (⟨#[101, 113, 32, 32, 110, 101, 32, 32, 108, 116, 32, 32, 108, 101, 32, 32, 97, 100, 100, 32, 115, 117, 98, 32, 109, 117, 108, 32, 100, 105, 118, 32, 109, 111, 100, 32, 110, 117, 109, 32, 97, 116, 32, 32, 110, 111, 116, 32, 110, 101, 103, 32, 108, 101, 110, 32, 114, 101, 32, 32, 105, 109, 32, 32, 99, 111, 110, 106]⟩ : ByteArray).extract 4 8 = (⟨#[110, 101, 32, 32]⟩ : ByteArray) := by kernel_rfl
theorem ex_33_1 : (⟨#[110, 101, 32]⟩ : ByteArray).extract 0 2 = (⟨#[110, 101]⟩ : ByteArray) := by kernel_rfl
theorem ex_33_2 : (⟨#[110, 101, 32, 32]⟩ : ByteArray).extract 0 3 = (⟨#[110, 101, 32]⟩ : ByteArray) := by kernel_rfl
set_option maxHeartbeats 2000000 in
set_option maxRecDepth 100000 in
theorem words_33 (w : World) : Calls Try.prog 24 #[.int .u8 33] w fun e w' => e = .returned (.string (⟨#[110, 101]⟩ : ByteArray)) ∧ Below w.heap.size w w' := by
  have hex := ex_33
  have hex1 := ex_33_1
  have hex2 := ex_33_2
  go_enter Try.func24, Try.ntmps24
  go_wp2
  go_loopg [5] 2 (fun kq v5 w' => ((kq = 0 ∧ v5 = .string (⟨#[110, 101]⟩ : ByteArray)) ∨ (kq = 1 ∧ v5 = .string (⟨#[110, 101, 32]⟩ : ByteArray)) ∨ (kq = 2 ∧ v5 = .string (⟨#[110, 101, 32, 32]⟩ : ByteArray))) ∧ w' = w)
  case atStart => exact ⟨by simp [hex], rfl⟩
  case round =>
    obtain ⟨hv, rfl⟩ := hrel
    rcases hv with ⟨rfl, rfl⟩ | ⟨rfl, rfl⟩ | ⟨rfl, rfl⟩
    · go_wp2
      go_ret
      exact ⟨rfl, Below.refl _ _⟩
    · go_wp2
      go_roundg 0
      case measure => omega
      case rel => exact ⟨by simp [hex1], rfl⟩
    · go_wp2
      go_roundg 1
      case measure => omega
      case rel => exact ⟨by simp [hex2], rfl⟩
theorem ex_34 : (⟨#[101, 113, 32, 32, 110, 101, 32, 32, 108, 116, 32, 32, 108, 101, 32, 32, 97, 100, 100, 32, 115, 117, 98, 32, 109, 117, 108, 32, 100, 105, 118, 32, 109, 111, 100, 32, 110, 117, 109, 32, 97, 116, 32, 32, 110, 111, 116, 32, 110, 101, 103, 32, 108, 101, 110, 32, 114, 101, 32, 32, 105, 109, 32, 32, 99, 111, 110, 106]⟩ : ByteArray).extract 8 12 = (⟨#[108, 116, 32, 32]⟩ : ByteArray) := by kernel_rfl
theorem ex_34_1 : (⟨#[108, 116, 32]⟩ : ByteArray).extract 0 2 = (⟨#[108, 116]⟩ : ByteArray) := by kernel_rfl
theorem ex_34_2 : (⟨#[108, 116, 32, 32]⟩ : ByteArray).extract 0 3 = (⟨#[108, 116, 32]⟩ : ByteArray) := by kernel_rfl
set_option maxHeartbeats 2000000 in
set_option maxRecDepth 100000 in
theorem words_34 (w : World) : Calls Try.prog 24 #[.int .u8 34] w fun e w' => e = .returned (.string (⟨#[108, 116]⟩ : ByteArray)) ∧ Below w.heap.size w w' := by
  have hex := ex_34
  have hex1 := ex_34_1
  have hex2 := ex_34_2
  go_enter Try.func24, Try.ntmps24
  go_wp2
  go_loopg [5] 2 (fun kq v5 w' => ((kq = 0 ∧ v5 = .string (⟨#[108, 116]⟩ : ByteArray)) ∨ (kq = 1 ∧ v5 = .string (⟨#[108, 116, 32]⟩ : ByteArray)) ∨ (kq = 2 ∧ v5 = .string (⟨#[108, 116, 32, 32]⟩ : ByteArray))) ∧ w' = w)
  case atStart => exact ⟨by simp [hex], rfl⟩
  case round =>
    obtain ⟨hv, rfl⟩ := hrel
    rcases hv with ⟨rfl, rfl⟩ | ⟨rfl, rfl⟩ | ⟨rfl, rfl⟩
    · go_wp2
      go_ret
      exact ⟨rfl, Below.refl _ _⟩
    · go_wp2
      go_roundg 0
      case measure => omega
      case rel => exact ⟨by simp [hex1], rfl⟩
    · go_wp2
      go_roundg 1
      case measure => omega
      case rel => exact ⟨by simp [hex2], rfl⟩
theorem ex_35 : (⟨#[101, 113, 32, 32, 110, 101, 32, 32, 108, 116, 32, 32, 108, 101, 32, 32, 97, 100, 100, 32, 115, 117, 98, 32, 109, 117, 108, 32, 100, 105, 118, 32, 109, 111, 100, 32, 110, 117, 109, 32, 97, 116, 32, 32, 110, 111, 116, 32, 110, 101, 103, 32, 108, 101, 110, 32, 114, 101, 32, 32, 105, 109, 32, 32, 99, 111, 110, 106]⟩ : ByteArray).extract 12 16 = (⟨#[108, 101, 32, 32]⟩ : ByteArray) := by kernel_rfl
theorem ex_35_1 : (⟨#[108, 101, 32]⟩ : ByteArray).extract 0 2 = (⟨#[108, 101]⟩ : ByteArray) := by kernel_rfl
theorem ex_35_2 : (⟨#[108, 101, 32, 32]⟩ : ByteArray).extract 0 3 = (⟨#[108, 101, 32]⟩ : ByteArray) := by kernel_rfl
set_option maxHeartbeats 2000000 in
set_option maxRecDepth 100000 in
theorem words_35 (w : World) : Calls Try.prog 24 #[.int .u8 35] w fun e w' => e = .returned (.string (⟨#[108, 101]⟩ : ByteArray)) ∧ Below w.heap.size w w' := by
  have hex := ex_35
  have hex1 := ex_35_1
  have hex2 := ex_35_2
  go_enter Try.func24, Try.ntmps24
  go_wp2
  go_loopg [5] 2 (fun kq v5 w' => ((kq = 0 ∧ v5 = .string (⟨#[108, 101]⟩ : ByteArray)) ∨ (kq = 1 ∧ v5 = .string (⟨#[108, 101, 32]⟩ : ByteArray)) ∨ (kq = 2 ∧ v5 = .string (⟨#[108, 101, 32, 32]⟩ : ByteArray))) ∧ w' = w)
  case atStart => exact ⟨by simp [hex], rfl⟩
  case round =>
    obtain ⟨hv, rfl⟩ := hrel
    rcases hv with ⟨rfl, rfl⟩ | ⟨rfl, rfl⟩ | ⟨rfl, rfl⟩
    · go_wp2
      go_ret
      exact ⟨rfl, Below.refl _ _⟩
    · go_wp2
      go_roundg 0
      case measure => omega
      case rel => exact ⟨by simp [hex1], rfl⟩
    · go_wp2
      go_roundg 1
      case measure => omega
      case rel => exact ⟨by simp [hex2], rfl⟩
theorem ex_36 : (⟨#[101, 113, 32, 32, 110, 101, 32, 32, 108, 116, 32, 32, 108, 101, 32, 32, 97, 100, 100, 32, 115, 117, 98, 32, 109, 117, 108, 32, 100, 105, 118, 32, 109, 111, 100, 32, 110, 117, 109, 32, 97, 116, 32, 32, 110, 111, 116, 32, 110, 101, 103, 32, 108, 101, 110, 32, 114, 101, 32, 32, 105, 109, 32, 32, 99, 111, 110, 106]⟩ : ByteArray).extract 16 20 = (⟨#[97, 100, 100, 32]⟩ : ByteArray) := by kernel_rfl
theorem ex_36_1 : (⟨#[97, 100, 100, 32]⟩ : ByteArray).extract 0 3 = (⟨#[97, 100, 100]⟩ : ByteArray) := by kernel_rfl
set_option maxHeartbeats 2000000 in
set_option maxRecDepth 100000 in
theorem words_36 (w : World) : Calls Try.prog 24 #[.int .u8 36] w fun e w' => e = .returned (.string (⟨#[97, 100, 100]⟩ : ByteArray)) ∧ Below w.heap.size w w' := by
  have hex := ex_36
  have hex1 := ex_36_1
  go_enter Try.func24, Try.ntmps24
  go_wp2
  go_loopg [5] 1 (fun kq v5 w' => ((kq = 0 ∧ v5 = .string (⟨#[97, 100, 100]⟩ : ByteArray)) ∨ (kq = 1 ∧ v5 = .string (⟨#[97, 100, 100, 32]⟩ : ByteArray))) ∧ w' = w)
  case atStart => exact ⟨by simp [hex], rfl⟩
  case round =>
    obtain ⟨hv, rfl⟩ := hrel
    rcases hv with ⟨rfl, rfl⟩ | ⟨rfl, rfl⟩
    · go_wp2
      go_ret
      exact ⟨rfl, Below.refl _ _⟩
    · go_wp2
      go_roundg 0
      case measure => omega
      case rel => exact ⟨by simp [hex1], rfl⟩
theorem ex_37 : (⟨#[101, 113, 32, 32, 110, 101, 32, 32, 108, 116, 32, 32, 108, 101, 32, 32, 97, 100, 100, 32, 115, 117, 98, 32, 109, 117, 108, 32, 100, 105, 118, 32, 109, 111, 100, 32, 110, 117, 109, 32, 97, 116, 32, 32, 110, 111, 116, 32, 110, 101, 103, 32, 108, 101, 110, 32, 114, 101, 32, 32, 105, 109, 32, 32, 99, 111, 110, 106]⟩ : ByteArray).extract 20 24 = (⟨#[115, 117, 98, 32]⟩ : ByteArray) := by kernel_rfl
theorem ex_37_1 : (⟨#[115, 117, 98, 32]⟩ : ByteArray).extract 0 3 = (⟨#[115, 117, 98]⟩ : ByteArray) := by kernel_rfl
set_option maxHeartbeats 2000000 in
set_option maxRecDepth 100000 in
theorem words_37 (w : World) : Calls Try.prog 24 #[.int .u8 37] w fun e w' => e = .returned (.string (⟨#[115, 117, 98]⟩ : ByteArray)) ∧ Below w.heap.size w w' := by
  have hex := ex_37
  have hex1 := ex_37_1
  go_enter Try.func24, Try.ntmps24
  go_wp2
  go_loopg [5] 1 (fun kq v5 w' => ((kq = 0 ∧ v5 = .string (⟨#[115, 117, 98]⟩ : ByteArray)) ∨ (kq = 1 ∧ v5 = .string (⟨#[115, 117, 98, 32]⟩ : ByteArray))) ∧ w' = w)
  case atStart => exact ⟨by simp [hex], rfl⟩
  case round =>
    obtain ⟨hv, rfl⟩ := hrel
    rcases hv with ⟨rfl, rfl⟩ | ⟨rfl, rfl⟩
    · go_wp2
      go_ret
      exact ⟨rfl, Below.refl _ _⟩
    · go_wp2
      go_roundg 0
      case measure => omega
      case rel => exact ⟨by simp [hex1], rfl⟩
theorem ex_38 : (⟨#[101, 113, 32, 32, 110, 101, 32, 32, 108, 116, 32, 32, 108, 101, 32, 32, 97, 100, 100, 32, 115, 117, 98, 32, 109, 117, 108, 32, 100, 105, 118, 32, 109, 111, 100, 32, 110, 117, 109, 32, 97, 116, 32, 32, 110, 111, 116, 32, 110, 101, 103, 32, 108, 101, 110, 32, 114, 101, 32, 32, 105, 109, 32, 32, 99, 111, 110, 106]⟩ : ByteArray).extract 24 28 = (⟨#[109, 117, 108, 32]⟩ : ByteArray) := by kernel_rfl
theorem ex_38_1 : (⟨#[109, 117, 108, 32]⟩ : ByteArray).extract 0 3 = (⟨#[109, 117, 108]⟩ : ByteArray) := by kernel_rfl
set_option maxHeartbeats 2000000 in
set_option maxRecDepth 100000 in
theorem words_38 (w : World) : Calls Try.prog 24 #[.int .u8 38] w fun e w' => e = .returned (.string (⟨#[109, 117, 108]⟩ : ByteArray)) ∧ Below w.heap.size w w' := by
  have hex := ex_38
  have hex1 := ex_38_1
  go_enter Try.func24, Try.ntmps24
  go_wp2
  go_loopg [5] 1 (fun kq v5 w' => ((kq = 0 ∧ v5 = .string (⟨#[109, 117, 108]⟩ : ByteArray)) ∨ (kq = 1 ∧ v5 = .string (⟨#[109, 117, 108, 32]⟩ : ByteArray))) ∧ w' = w)
  case atStart => exact ⟨by simp [hex], rfl⟩
  case round =>
    obtain ⟨hv, rfl⟩ := hrel
    rcases hv with ⟨rfl, rfl⟩ | ⟨rfl, rfl⟩
    · go_wp2
      go_ret
      exact ⟨rfl, Below.refl _ _⟩
    · go_wp2
      go_roundg 0
      case measure => omega
      case rel => exact ⟨by simp [hex1], rfl⟩
theorem ex_39 : (⟨#[101, 113, 32, 32, 110, 101, 32, 32, 108, 116, 32, 32, 108, 101, 32, 32, 97, 100, 100, 32, 115, 117, 98, 32, 109, 117, 108, 32, 100, 105, 118, 32, 109, 111, 100, 32, 110, 117, 109, 32, 97, 116, 32, 32, 110, 111, 116, 32, 110, 101, 103, 32, 108, 101, 110, 32, 114, 101, 32, 32, 105, 109, 32, 32, 99, 111, 110, 106]⟩ : ByteArray).extract 28 32 = (⟨#[100, 105, 118, 32]⟩ : ByteArray) := by kernel_rfl
theorem ex_39_1 : (⟨#[100, 105, 118, 32]⟩ : ByteArray).extract 0 3 = (⟨#[100, 105, 118]⟩ : ByteArray) := by kernel_rfl
set_option maxHeartbeats 2000000 in
set_option maxRecDepth 100000 in
theorem words_39 (w : World) : Calls Try.prog 24 #[.int .u8 39] w fun e w' => e = .returned (.string (⟨#[100, 105, 118]⟩ : ByteArray)) ∧ Below w.heap.size w w' := by
  have hex := ex_39
  have hex1 := ex_39_1
  go_enter Try.func24, Try.ntmps24
  go_wp2
  go_loopg [5] 1 (fun kq v5 w' => ((kq = 0 ∧ v5 = .string (⟨#[100, 105, 118]⟩ : ByteArray)) ∨ (kq = 1 ∧ v5 = .string (⟨#[100, 105, 118, 32]⟩ : ByteArray))) ∧ w' = w)
  case atStart => exact ⟨by simp [hex], rfl⟩
  case round =>
    obtain ⟨hv, rfl⟩ := hrel
    rcases hv with ⟨rfl, rfl⟩ | ⟨rfl, rfl⟩
    · go_wp2
      go_ret
      exact ⟨rfl, Below.refl _ _⟩
    · go_wp2
      go_roundg 0
      case measure => omega
      case rel => exact ⟨by simp [hex1], rfl⟩
theorem ex_40 : (⟨#[101, 113, 32, 32, 110, 101, 32, 32, 108, 116, 32, 32, 108, 101, 32, 32, 97, 100, 100, 32, 115, 117, 98, 32, 109, 117, 108, 32, 100, 105, 118, 32, 109, 111, 100, 32, 110, 117, 109, 32, 97, 116, 32, 32, 110, 111, 116, 32, 110, 101, 103, 32, 108, 101, 110, 32, 114, 101, 32, 32, 105, 109, 32, 32, 99, 111, 110, 106]⟩ : ByteArray).extract 32 36 = (⟨#[109, 111, 100, 32]⟩ : ByteArray) := by kernel_rfl
theorem ex_40_1 : (⟨#[109, 111, 100, 32]⟩ : ByteArray).extract 0 3 = (⟨#[109, 111, 100]⟩ : ByteArray) := by kernel_rfl
set_option maxHeartbeats 2000000 in
set_option maxRecDepth 100000 in
theorem words_40 (w : World) : Calls Try.prog 24 #[.int .u8 40] w fun e w' => e = .returned (.string (⟨#[109, 111, 100]⟩ : ByteArray)) ∧ Below w.heap.size w w' := by
  have hex := ex_40
  have hex1 := ex_40_1
  go_enter Try.func24, Try.ntmps24
  go_wp2
  go_loopg [5] 1 (fun kq v5 w' => ((kq = 0 ∧ v5 = .string (⟨#[109, 111, 100]⟩ : ByteArray)) ∨ (kq = 1 ∧ v5 = .string (⟨#[109, 111, 100, 32]⟩ : ByteArray))) ∧ w' = w)
  case atStart => exact ⟨by simp [hex], rfl⟩
  case round =>
    obtain ⟨hv, rfl⟩ := hrel
    rcases hv with ⟨rfl, rfl⟩ | ⟨rfl, rfl⟩
    · go_wp2
      go_ret
      exact ⟨rfl, Below.refl _ _⟩
    · go_wp2
      go_roundg 0
      case measure => omega
      case rel => exact ⟨by simp [hex1], rfl⟩
theorem ex_41 : (⟨#[101, 113, 32, 32, 110, 101, 32, 32, 108, 116, 32, 32, 108, 101, 32, 32, 97, 100, 100, 32, 115, 117, 98, 32, 109, 117, 108, 32, 100, 105, 118, 32, 109, 111, 100, 32, 110, 117, 109, 32, 97, 116, 32, 32, 110, 111, 116, 32, 110, 101, 103, 32, 108, 101, 110, 32, 114, 101, 32, 32, 105, 109, 32, 32, 99, 111, 110, 106]⟩ : ByteArray).extract 36 40 = (⟨#[110, 117, 109, 32]⟩ : ByteArray) := by kernel_rfl
theorem ex_41_1 : (⟨#[110, 117, 109, 32]⟩ : ByteArray).extract 0 3 = (⟨#[110, 117, 109]⟩ : ByteArray) := by kernel_rfl
set_option maxHeartbeats 2000000 in
set_option maxRecDepth 100000 in
theorem words_41 (w : World) : Calls Try.prog 24 #[.int .u8 41] w fun e w' => e = .returned (.string (⟨#[110, 117, 109]⟩ : ByteArray)) ∧ Below w.heap.size w w' := by
  have hex := ex_41
  have hex1 := ex_41_1
  go_enter Try.func24, Try.ntmps24
  go_wp2
  go_loopg [5] 1 (fun kq v5 w' => ((kq = 0 ∧ v5 = .string (⟨#[110, 117, 109]⟩ : ByteArray)) ∨ (kq = 1 ∧ v5 = .string (⟨#[110, 117, 109, 32]⟩ : ByteArray))) ∧ w' = w)
  case atStart => exact ⟨by simp [hex], rfl⟩
  case round =>
    obtain ⟨hv, rfl⟩ := hrel
    rcases hv with ⟨rfl, rfl⟩ | ⟨rfl, rfl⟩
    · go_wp2
      go_ret
      exact ⟨rfl, Below.refl _ _⟩
    · go_wp2
      go_roundg 0
      case measure => omega
      case rel => exact ⟨by simp [hex1], rfl⟩
theorem ex_42 : (⟨#[101, 113, 32, 32, 110, 101, 32, 32, 108, 116, 32, 32, 108, 101, 32, 32, 97, 100, 100, 32, 115, 117, 98, 32, 109, 117, 108, 32, 100, 105, 118, 32, 109, 111, 100, 32, 110, 117, 109, 32, 97, 116, 32, 32, 110, 111, 116, 32, 110, 101, 103, 32, 108, 101, 110, 32, 114, 101, 32, 32, 105, 109, 32, 32, 99, 111, 110, 106]⟩ : ByteArray).extract 40 44 = (⟨#[97, 116, 32, 32]⟩ : ByteArray) := by kernel_rfl
theorem ex_42_1 : (⟨#[97, 116, 32]⟩ : ByteArray).extract 0 2 = (⟨#[97, 116]⟩ : ByteArray) := by kernel_rfl
theorem ex_42_2 : (⟨#[97, 116, 32, 32]⟩ : ByteArray).extract 0 3 = (⟨#[97, 116, 32]⟩ : ByteArray) := by kernel_rfl
set_option maxHeartbeats 2000000 in
set_option maxRecDepth 100000 in
theorem words_42 (w : World) : Calls Try.prog 24 #[.int .u8 42] w fun e w' => e = .returned (.string (⟨#[97, 116]⟩ : ByteArray)) ∧ Below w.heap.size w w' := by
  have hex := ex_42
  have hex1 := ex_42_1
  have hex2 := ex_42_2
  go_enter Try.func24, Try.ntmps24
  go_wp2
  go_loopg [5] 2 (fun kq v5 w' => ((kq = 0 ∧ v5 = .string (⟨#[97, 116]⟩ : ByteArray)) ∨ (kq = 1 ∧ v5 = .string (⟨#[97, 116, 32]⟩ : ByteArray)) ∨ (kq = 2 ∧ v5 = .string (⟨#[97, 116, 32, 32]⟩ : ByteArray))) ∧ w' = w)
  case atStart => exact ⟨by simp [hex], rfl⟩
  case round =>
    obtain ⟨hv, rfl⟩ := hrel
    rcases hv with ⟨rfl, rfl⟩ | ⟨rfl, rfl⟩ | ⟨rfl, rfl⟩
    · go_wp2
      go_ret
      exact ⟨rfl, Below.refl _ _⟩
    · go_wp2
      go_roundg 0
      case measure => omega
      case rel => exact ⟨by simp [hex1], rfl⟩
    · go_wp2
      go_roundg 1
      case measure => omega
      case rel => exact ⟨by simp [hex2], rfl⟩
theorem ex_43 : (⟨#[101, 113, 32, 32, 110, 101, 32, 32, 108, 116, 32, 32, 108, 101, 32, 32, 97, 100, 100, 32, 115, 117, 98, 32, 109, 117, 108, 32, 100, 105, 118, 32, 109, 111, 100, 32, 110, 117, 109, 32, 97, 116, 32, 32, 110, 111, 116, 32, 110, 101, 103, 32, 108, 101, 110, 32, 114, 101, 32, 32, 105, 109, 32, 32, 99, 111, 110, 106]⟩ : ByteArray).extract 44 48 = (⟨#[110, 111, 116, 32]⟩ : ByteArray) := by kernel_rfl
theorem ex_43_1 : (⟨#[110, 111, 116, 32]⟩ : ByteArray).extract 0 3 = (⟨#[110, 111, 116]⟩ : ByteArray) := by kernel_rfl
set_option maxHeartbeats 2000000 in
set_option maxRecDepth 100000 in
theorem words_43 (w : World) : Calls Try.prog 24 #[.int .u8 43] w fun e w' => e = .returned (.string (⟨#[110, 111, 116]⟩ : ByteArray)) ∧ Below w.heap.size w w' := by
  have hex := ex_43
  have hex1 := ex_43_1
  go_enter Try.func24, Try.ntmps24
  go_wp2
  go_loopg [5] 1 (fun kq v5 w' => ((kq = 0 ∧ v5 = .string (⟨#[110, 111, 116]⟩ : ByteArray)) ∨ (kq = 1 ∧ v5 = .string (⟨#[110, 111, 116, 32]⟩ : ByteArray))) ∧ w' = w)
  case atStart => exact ⟨by simp [hex], rfl⟩
  case round =>
    obtain ⟨hv, rfl⟩ := hrel
    rcases hv with ⟨rfl, rfl⟩ | ⟨rfl, rfl⟩
    · go_wp2
      go_ret
      exact ⟨rfl, Below.refl _ _⟩
    · go_wp2
      go_roundg 0
      case measure => omega
      case rel => exact ⟨by simp [hex1], rfl⟩
theorem ex_44 : (⟨#[101, 113, 32, 32, 110, 101, 32, 32, 108, 116, 32, 32, 108, 101, 32, 32, 97, 100, 100, 32, 115, 117, 98, 32, 109, 117, 108, 32, 100, 105, 118, 32, 109, 111, 100, 32, 110, 117, 109, 32, 97, 116, 32, 32, 110, 111, 116, 32, 110, 101, 103, 32, 108, 101, 110, 32, 114, 101, 32, 32, 105, 109, 32, 32, 99, 111, 110, 106]⟩ : ByteArray).extract 48 52 = (⟨#[110, 101, 103, 32]⟩ : ByteArray) := by kernel_rfl
theorem ex_44_1 : (⟨#[110, 101, 103, 32]⟩ : ByteArray).extract 0 3 = (⟨#[110, 101, 103]⟩ : ByteArray) := by kernel_rfl
set_option maxHeartbeats 2000000 in
set_option maxRecDepth 100000 in
theorem words_44 (w : World) : Calls Try.prog 24 #[.int .u8 44] w fun e w' => e = .returned (.string (⟨#[110, 101, 103]⟩ : ByteArray)) ∧ Below w.heap.size w w' := by
  have hex := ex_44
  have hex1 := ex_44_1
  go_enter Try.func24, Try.ntmps24
  go_wp2
  go_loopg [5] 1 (fun kq v5 w' => ((kq = 0 ∧ v5 = .string (⟨#[110, 101, 103]⟩ : ByteArray)) ∨ (kq = 1 ∧ v5 = .string (⟨#[110, 101, 103, 32]⟩ : ByteArray))) ∧ w' = w)
  case atStart => exact ⟨by simp [hex], rfl⟩
  case round =>
    obtain ⟨hv, rfl⟩ := hrel
    rcases hv with ⟨rfl, rfl⟩ | ⟨rfl, rfl⟩
    · go_wp2
      go_ret
      exact ⟨rfl, Below.refl _ _⟩
    · go_wp2
      go_roundg 0
      case measure => omega
      case rel => exact ⟨by simp [hex1], rfl⟩
theorem ex_45 : (⟨#[101, 113, 32, 32, 110, 101, 32, 32, 108, 116, 32, 32, 108, 101, 32, 32, 97, 100, 100, 32, 115, 117, 98, 32, 109, 117, 108, 32, 100, 105, 118, 32, 109, 111, 100, 32, 110, 117, 109, 32, 97, 116, 32, 32, 110, 111, 116, 32, 110, 101, 103, 32, 108, 101, 110, 32, 114, 101, 32, 32, 105, 109, 32, 32, 99, 111, 110, 106]⟩ : ByteArray).extract 52 56 = (⟨#[108, 101, 110, 32]⟩ : ByteArray) := by kernel_rfl
theorem ex_45_1 : (⟨#[108, 101, 110, 32]⟩ : ByteArray).extract 0 3 = (⟨#[108, 101, 110]⟩ : ByteArray) := by kernel_rfl
set_option maxHeartbeats 2000000 in
set_option maxRecDepth 100000 in
theorem words_45 (w : World) : Calls Try.prog 24 #[.int .u8 45] w fun e w' => e = .returned (.string (⟨#[108, 101, 110]⟩ : ByteArray)) ∧ Below w.heap.size w w' := by
  have hex := ex_45
  have hex1 := ex_45_1
  go_enter Try.func24, Try.ntmps24
  go_wp2
  go_loopg [5] 1 (fun kq v5 w' => ((kq = 0 ∧ v5 = .string (⟨#[108, 101, 110]⟩ : ByteArray)) ∨ (kq = 1 ∧ v5 = .string (⟨#[108, 101, 110, 32]⟩ : ByteArray))) ∧ w' = w)
  case atStart => exact ⟨by simp [hex], rfl⟩
  case round =>
    obtain ⟨hv, rfl⟩ := hrel
    rcases hv with ⟨rfl, rfl⟩ | ⟨rfl, rfl⟩
    · go_wp2
      go_ret
      exact ⟨rfl, Below.refl _ _⟩
    · go_wp2
      go_roundg 0
      case measure => omega
      case rel => exact ⟨by simp [hex1], rfl⟩
theorem ex_46 : (⟨#[101, 113, 32, 32, 110, 101, 32, 32, 108, 116, 32, 32, 108, 101, 32, 32, 97, 100, 100, 32, 115, 117, 98, 32, 109, 117, 108, 32, 100, 105, 118, 32, 109, 111, 100, 32, 110, 117, 109, 32, 97, 116, 32, 32, 110, 111, 116, 32, 110, 101, 103, 32, 108, 101, 110, 32, 114, 101, 32, 32, 105, 109, 32, 32, 99, 111, 110, 106]⟩ : ByteArray).extract 56 60 = (⟨#[114, 101, 32, 32]⟩ : ByteArray) := by kernel_rfl
theorem ex_46_1 : (⟨#[114, 101, 32]⟩ : ByteArray).extract 0 2 = (⟨#[114, 101]⟩ : ByteArray) := by kernel_rfl
theorem ex_46_2 : (⟨#[114, 101, 32, 32]⟩ : ByteArray).extract 0 3 = (⟨#[114, 101, 32]⟩ : ByteArray) := by kernel_rfl
set_option maxHeartbeats 2000000 in
set_option maxRecDepth 100000 in
theorem words_46 (w : World) : Calls Try.prog 24 #[.int .u8 46] w fun e w' => e = .returned (.string (⟨#[114, 101]⟩ : ByteArray)) ∧ Below w.heap.size w w' := by
  have hex := ex_46
  have hex1 := ex_46_1
  have hex2 := ex_46_2
  go_enter Try.func24, Try.ntmps24
  go_wp2
  go_loopg [5] 2 (fun kq v5 w' => ((kq = 0 ∧ v5 = .string (⟨#[114, 101]⟩ : ByteArray)) ∨ (kq = 1 ∧ v5 = .string (⟨#[114, 101, 32]⟩ : ByteArray)) ∨ (kq = 2 ∧ v5 = .string (⟨#[114, 101, 32, 32]⟩ : ByteArray))) ∧ w' = w)
  case atStart => exact ⟨by simp [hex], rfl⟩
  case round =>
    obtain ⟨hv, rfl⟩ := hrel
    rcases hv with ⟨rfl, rfl⟩ | ⟨rfl, rfl⟩ | ⟨rfl, rfl⟩
    · go_wp2
      go_ret
      exact ⟨rfl, Below.refl _ _⟩
    · go_wp2
      go_roundg 0
      case measure => omega
      case rel => exact ⟨by simp [hex1], rfl⟩
    · go_wp2
      go_roundg 1
      case measure => omega
      case rel => exact ⟨by simp [hex2], rfl⟩
theorem ex_47 : (⟨#[101, 113, 32, 32, 110, 101, 32, 32, 108, 116, 32, 32, 108, 101, 32, 32, 97, 100, 100, 32, 115, 117, 98, 32, 109, 117, 108, 32, 100, 105, 118, 32, 109, 111, 100, 32, 110, 117, 109, 32, 97, 116, 32, 32, 110, 111, 116, 32, 110, 101, 103, 32, 108, 101, 110, 32, 114, 101, 32, 32, 105, 109, 32, 32, 99, 111, 110, 106]⟩ : ByteArray).extract 60 64 = (⟨#[105, 109, 32, 32]⟩ : ByteArray) := by kernel_rfl
theorem ex_47_1 : (⟨#[105, 109, 32]⟩ : ByteArray).extract 0 2 = (⟨#[105, 109]⟩ : ByteArray) := by kernel_rfl
theorem ex_47_2 : (⟨#[105, 109, 32, 32]⟩ : ByteArray).extract 0 3 = (⟨#[105, 109, 32]⟩ : ByteArray) := by kernel_rfl
set_option maxHeartbeats 2000000 in
set_option maxRecDepth 100000 in
theorem words_47 (w : World) : Calls Try.prog 24 #[.int .u8 47] w fun e w' => e = .returned (.string (⟨#[105, 109]⟩ : ByteArray)) ∧ Below w.heap.size w w' := by
  have hex := ex_47
  have hex1 := ex_47_1
  have hex2 := ex_47_2
  go_enter Try.func24, Try.ntmps24
  go_wp2
  go_loopg [5] 2 (fun kq v5 w' => ((kq = 0 ∧ v5 = .string (⟨#[105, 109]⟩ : ByteArray)) ∨ (kq = 1 ∧ v5 = .string (⟨#[105, 109, 32]⟩ : ByteArray)) ∨ (kq = 2 ∧ v5 = .string (⟨#[105, 109, 32, 32]⟩ : ByteArray))) ∧ w' = w)
  case atStart => exact ⟨by simp [hex], rfl⟩
  case round =>
    obtain ⟨hv, rfl⟩ := hrel
    rcases hv with ⟨rfl, rfl⟩ | ⟨rfl, rfl⟩ | ⟨rfl, rfl⟩
    · go_wp2
      go_ret
      exact ⟨rfl, Below.refl _ _⟩
    · go_wp2
      go_roundg 0
      case measure => omega
      case rel => exact ⟨by simp [hex1], rfl⟩
    · go_wp2
      go_roundg 1
      case measure => omega
      case rel => exact ⟨by simp [hex2], rfl⟩
theorem ex_48 : (⟨#[101, 113, 32, 32, 110, 101, 32, 32, 108, 116, 32, 32, 108, 101, 32, 32, 97, 100, 100, 32, 115, 117, 98, 32, 109, 117, 108, 32, 100, 105, 118, 32, 109, 111, 100, 32, 110, 117, 109, 32, 97, 116, 32, 32, 110, 111, 116, 32, 110, 101, 103, 32, 108, 101, 110, 32, 114, 101, 32, 32, 105, 109, 32, 32, 99, 111, 110, 106]⟩ : ByteArray).extract 64 68 = (⟨#[99, 111, 110, 106]⟩ : ByteArray) := by kernel_rfl
set_option maxHeartbeats 2000000 in
set_option maxRecDepth 100000 in
theorem words_48 (w : World) : Calls Try.prog 24 #[.int .u8 48] w fun e w' => e = .returned (.string (⟨#[99, 111, 110, 106]⟩ : ByteArray)) ∧ Below w.heap.size w w' := by
  have hex := ex_48
  go_enter Try.func24, Try.ntmps24
  go_wp2
  go_loopg [5] 0 (fun kq v5 w' => ((kq = 0 ∧ v5 = .string (⟨#[99, 111, 110, 106]⟩ : ByteArray))) ∧ w' = w)
  case atStart => exact ⟨by simp [hex], rfl⟩
  case round =>
    obtain ⟨hv, rfl⟩ := hrel
    obtain ⟨rfl, rfl⟩ := hv
    · go_wp2
      go_ret
      exact ⟨rfl, Below.refl _ _⟩
theorem words_calls (w : World) (a0 : Int) (r : ByteArray) (h : wordsT a0 = some r) : Calls Try.prog 24 #[.int .u8 a0] w fun e w' => e = .returned (.string r) ∧ Below w.heap.size w w' := by
  by_cases h32 : a0 = 32
  · subst h32
    simp only [wordsT] at h
    simp at h
    subst h
    exact words_32 w
  by_cases h33 : a0 = 33
  · subst h33
    simp only [wordsT] at h
    simp at h
    subst h
    exact words_33 w
  by_cases h34 : a0 = 34
  · subst h34
    simp only [wordsT] at h
    simp at h
    subst h
    exact words_34 w
  by_cases h35 : a0 = 35
  · subst h35
    simp only [wordsT] at h
    simp at h
    subst h
    exact words_35 w
  by_cases h36 : a0 = 36
  · subst h36
    simp only [wordsT] at h
    simp at h
    subst h
    exact words_36 w
  by_cases h37 : a0 = 37
  · subst h37
    simp only [wordsT] at h
    simp at h
    subst h
    exact words_37 w
  by_cases h38 : a0 = 38
  · subst h38
    simp only [wordsT] at h
    simp at h
    subst h
    exact words_38 w
  by_cases h39 : a0 = 39
  · subst h39
    simp only [wordsT] at h
    simp at h
    subst h
    exact words_39 w
  by_cases h40 : a0 = 40
  · subst h40
    simp only [wordsT] at h
    simp at h
    subst h
    exact words_40 w
  by_cases h41 : a0 = 41
  · subst h41
    simp only [wordsT] at h
    simp at h
    subst h
    exact words_41 w
  by_cases h42 : a0 = 42
  · subst h42
    simp only [wordsT] at h
    simp at h
    subst h
    exact words_42 w
  by_cases h43 : a0 = 43
  · subst h43
    simp only [wordsT] at h
    simp at h
    subst h
    exact words_43 w
  by_cases h44 : a0 = 44
  · subst h44
    simp only [wordsT] at h
    simp at h
    subst h
    exact words_44 w
  by_cases h45 : a0 = 45
  · subst h45
    simp only [wordsT] at h
    simp at h
    subst h
    exact words_45 w
  by_cases h46 : a0 = 46
  · subst h46
    simp only [wordsT] at h
    simp at h
    subst h
    exact words_46 w
  by_cases h47 : a0 = 47
  · subst h47
    simp only [wordsT] at h
    simp at h
    subst h
    exact words_47 w
  by_cases h48 : a0 = 48
  · subst h48
    simp only [wordsT] at h
    simp at h
    subst h
    exact words_48 w
  unfold wordsT at h
  rw [if_neg h32, if_neg h33, if_neg h34, if_neg h35, if_neg h36, if_neg h37, if_neg h38, if_neg h39, if_neg h40, if_neg h41, if_neg h42, if_neg h43, if_neg h44, if_neg h45, if_neg h46, if_neg h47, if_neg h48] at h
  cases h
end Go.Proofs.Ytcpjjnikehcleaa.Wd
