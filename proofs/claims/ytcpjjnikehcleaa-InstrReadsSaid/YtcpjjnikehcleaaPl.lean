/- instr.plain: a table of words. -/
import Derived.Test.YtcpjjnikehcleaaProg
import Derived.Below
import Derived.Deep.Draws
import Derived.Deep.AppendLies
import Derived.Maps.AppendAt
import Derived.OwnWalk
import Derived.Laws.BytesArg
import Derived.Laws.MakeOwn
import Derived.Laws.OwnMore
import Derived.Deep.OwnRows
import Derived.Tactics
import Derived.Lib.ConvBytes
import Derived.Laws.Slices
import Derived.WalkKit
import Derived.KernelRfl
import Derived.RowKit3
import Derived.Deep.LoopGhost
import Derived.Deep.QuietTactic
import Derived.BigQuiet
import Derived.WideLaws
import Derived.Deep.DeepCutAuto
import Derived.Deep.CutBlock
import Derived.Deep.RegionHeld3
import Derived.Laws.Rows
import Derived.Lib.AppendStr
import Derived.ArgAppend
import Derived.Laws.IdiomCopy
import Derived.OrdersHeld
import Derived.Laws.BitsLemmas
import Derived.RowKit
import Derived.Test.YtcpjjnikehcleaaMo
namespace Go.Proofs.Ytcpjjnikehcleaa.Pl
open Go.RowKit Go.Proofs.YtcpjjnikehcleaaW.PrintWords Go.Proofs.YtcpjjnikehcleaaW.PrintLast Go.Proofs.YtcpjjnikehcleaaW.PrintMore
set_option linter.unusedVariables false
set_option linter.unusedSimpArgs false
def plainT (a0 : Int) : Option (ByteArray × Int × Bool × Int × Int × Int × Bool × Bool) := if a0 = 5 then some ((⟨#[98, 111, 111, 108]⟩ : ByteArray), 0, false, 0, 1, 1, false, false)
  else if a0 = 6 then some ((⟨#[100, 114, 111, 112]⟩ : ByteArray), 0, false, 0, 1, 0, false, false)
  else if a0 = 10 then some ((⟨#[115, 108, 101, 101, 112]⟩ : ByteArray), 0, false, 0, 1, 0, false, false)
  else if a0 = 20 then some ((⟨#[110, 111, 110, 101]⟩ : ByteArray), 0, false, 0, 0, 1, false, false)
  else if a0 = 21 then some ((⟨#[116, 114, 117, 101]⟩ : ByteArray), 0, false, 0, 0, 1, false, false)
  else if a0 = 22 then some ((⟨#[102, 97, 108, 115, 101]⟩ : ByteArray), 0, false, 0, 0, 1, false, false)
  else if a0 = 57 then some ((⟨#[118, 101, 114, 115, 105, 111, 110]⟩ : ByteArray), 0, false, 0, 0, 1, false, false)
  else if a0 = 52 then some ((⟨#[116, 105, 109, 101, 114]⟩ : ByteArray), 0, false, 0, 1, 1, false, false)
  else if a0 = 54 then some ((⟨#[97, 119, 97, 105, 116]⟩ : ByteArray), 0, false, 0, 1, 1, false, false)
  else if a0 = 55 then some ((⟨#[115, 101, 116, 116, 108, 101]⟩ : ByteArray), 0, false, 0, 1, 1, false, false)
  else if a0 = 32 then some ((⟨#[101, 113]⟩ : ByteArray), 0, false, 0, 2, 1, false, false)
  else if a0 = 33 then some ((⟨#[110, 101]⟩ : ByteArray), 0, false, 0, 2, 1, false, false)
  else if a0 = 34 then some ((⟨#[108, 116]⟩ : ByteArray), 0, false, 0, 2, 1, false, false)
  else if a0 = 35 then some ((⟨#[108, 101]⟩ : ByteArray), 0, false, 0, 2, 1, false, false)
  else if a0 = 36 then some ((⟨#[97, 100, 100]⟩ : ByteArray), 0, false, 0, 2, 1, false, false)
  else if a0 = 37 then some ((⟨#[115, 117, 98]⟩ : ByteArray), 0, false, 0, 2, 1, false, false)
  else if a0 = 38 then some ((⟨#[109, 117, 108]⟩ : ByteArray), 0, false, 0, 2, 1, false, false)
  else if a0 = 39 then some ((⟨#[100, 105, 118]⟩ : ByteArray), 0, false, 0, 2, 1, false, false)
  else if a0 = 40 then some ((⟨#[109, 111, 100]⟩ : ByteArray), 0, false, 0, 2, 1, false, false)
  else if a0 = 41 then some ((⟨#[110, 117, 109]⟩ : ByteArray), 0, false, 0, 2, 1, false, false)
  else if a0 = 42 then some ((⟨#[97, 116]⟩ : ByteArray), 0, false, 0, 2, 1, false, false)
  else if a0 = 43 then some ((⟨#[110, 111, 116]⟩ : ByteArray), 0, false, 0, 1, 1, false, false)
  else if a0 = 44 then some ((⟨#[110, 101, 103]⟩ : ByteArray), 0, false, 0, 1, 1, false, false)
  else if a0 = 45 then some ((⟨#[108, 101, 110]⟩ : ByteArray), 0, false, 0, 1, 1, false, false)
  else if a0 = 46 then some ((⟨#[114, 101]⟩ : ByteArray), 0, false, 0, 1, 1, false, false)
  else if a0 = 47 then some ((⟨#[105, 109]⟩ : ByteArray), 0, false, 0, 1, 1, false, false)
  else if a0 = 48 then some ((⟨#[99, 111, 110, 106]⟩ : ByteArray), 0, false, 0, 1, 1, false, false)
  else some (⟨#[]⟩, 0, false, 0, 0, 0, false, false)
def Post (r : ByteArray × Int × Bool × Int × Int × Int × Bool × Bool) (w : World) (e : Ending) (w' : World) : Prop := e = .returned (.agg #[.string r.1, .int .u8 r.2.1, .bool r.2.2.1, .int .u8 r.2.2.2.1, .int .i64 r.2.2.2.2.1, .int .i64 r.2.2.2.2.2.1, .bool r.2.2.2.2.2.2.1, .bool r.2.2.2.2.2.2.2]) ∧ Below w.heap.size w w'
set_option maxHeartbeats 2000000 in
set_option maxRecDepth 100000 in
theorem plain_5 (w : World) : Calls Try.prog 34 #[.int .u8 5] w (Post ((⟨#[98, 111, 111, 108]⟩ : ByteArray), 0, false, 0, 1, 1, false, false) w) := by
  have hu55 := Try.underlying55
  go_enter Try.func34, Try.ntmps34
  go_wp2
  refine bodyPost_ret (results_cell_row rfl _ _ w.heap.size 55 _ (0, 0) _ rfl (blk_new w _) hu55 rfl (by kernel_rfl)) rfl ?_
  exact ⟨rfl, below_alloc (Below.refl _ _) _⟩
set_option maxHeartbeats 2000000 in
set_option maxRecDepth 100000 in
theorem plain_6 (w : World) : Calls Try.prog 34 #[.int .u8 6] w (Post ((⟨#[100, 114, 111, 112]⟩ : ByteArray), 0, false, 0, 1, 0, false, false) w) := by
  have hu55 := Try.underlying55
  go_enter Try.func34, Try.ntmps34
  go_wp2
  refine bodyPost_ret (results_cell_row rfl _ _ w.heap.size 55 _ (0, 0) _ rfl (blk_new w _) hu55 rfl (by kernel_rfl)) rfl ?_
  exact ⟨rfl, below_alloc (Below.refl _ _) _⟩
set_option maxHeartbeats 2000000 in
set_option maxRecDepth 100000 in
theorem plain_10 (w : World) : Calls Try.prog 34 #[.int .u8 10] w (Post ((⟨#[115, 108, 101, 101, 112]⟩ : ByteArray), 0, false, 0, 1, 0, false, false) w) := by
  have hu55 := Try.underlying55
  go_enter Try.func34, Try.ntmps34
  go_wp2
  refine bodyPost_ret (results_cell_row rfl _ _ w.heap.size 55 _ (0, 0) _ rfl (blk_new w _) hu55 rfl (by kernel_rfl)) rfl ?_
  exact ⟨rfl, below_alloc (Below.refl _ _) _⟩
set_option maxHeartbeats 2000000 in
set_option maxRecDepth 100000 in
theorem plain_20 (w : World) : Calls Try.prog 34 #[.int .u8 20] w (Post ((⟨#[110, 111, 110, 101]⟩ : ByteArray), 0, false, 0, 0, 1, false, false) w) := by
  have hu55 := Try.underlying55
  go_enter Try.func34, Try.ntmps34
  go_wp2
  refine bodyPost_ret (results_cell_row rfl _ _ w.heap.size 55 _ (0, 0) _ rfl (blk_new w _) hu55 rfl (by kernel_rfl)) rfl ?_
  exact ⟨rfl, below_alloc (Below.refl _ _) _⟩
set_option maxHeartbeats 2000000 in
set_option maxRecDepth 100000 in
theorem plain_21 (w : World) : Calls Try.prog 34 #[.int .u8 21] w (Post ((⟨#[116, 114, 117, 101]⟩ : ByteArray), 0, false, 0, 0, 1, false, false) w) := by
  have hu55 := Try.underlying55
  go_enter Try.func34, Try.ntmps34
  go_wp2
  refine bodyPost_ret (results_cell_row rfl _ _ w.heap.size 55 _ (0, 0) _ rfl (blk_new w _) hu55 rfl (by kernel_rfl)) rfl ?_
  exact ⟨rfl, below_alloc (Below.refl _ _) _⟩
set_option maxHeartbeats 2000000 in
set_option maxRecDepth 100000 in
theorem plain_22 (w : World) : Calls Try.prog 34 #[.int .u8 22] w (Post ((⟨#[102, 97, 108, 115, 101]⟩ : ByteArray), 0, false, 0, 0, 1, false, false) w) := by
  have hu55 := Try.underlying55
  go_enter Try.func34, Try.ntmps34
  go_wp2
  refine bodyPost_ret (results_cell_row rfl _ _ w.heap.size 55 _ (0, 0) _ rfl (blk_new w _) hu55 rfl (by kernel_rfl)) rfl ?_
  exact ⟨rfl, below_alloc (Below.refl _ _) _⟩
set_option maxHeartbeats 2000000 in
set_option maxRecDepth 100000 in
theorem plain_57 (w : World) : Calls Try.prog 34 #[.int .u8 57] w (Post ((⟨#[118, 101, 114, 115, 105, 111, 110]⟩ : ByteArray), 0, false, 0, 0, 1, false, false) w) := by
  have hu55 := Try.underlying55
  go_enter Try.func34, Try.ntmps34
  go_wp2
  refine bodyPost_ret (results_cell_row rfl _ _ w.heap.size 55 _ (0, 0) _ rfl (blk_new w _) hu55 rfl (by kernel_rfl)) rfl ?_
  exact ⟨rfl, below_alloc (Below.refl _ _) _⟩
set_option maxHeartbeats 2000000 in
set_option maxRecDepth 100000 in
theorem plain_52 (w : World) : Calls Try.prog 34 #[.int .u8 52] w (Post ((⟨#[116, 105, 109, 101, 114]⟩ : ByteArray), 0, false, 0, 1, 1, false, false) w) := by
  have hu55 := Try.underlying55
  go_enter Try.func34, Try.ntmps34
  go_wp2
  refine bodyPost_ret (results_cell_row rfl _ _ w.heap.size 55 _ (0, 0) _ rfl (blk_new w _) hu55 rfl (by kernel_rfl)) rfl ?_
  exact ⟨rfl, below_alloc (Below.refl _ _) _⟩
set_option maxHeartbeats 2000000 in
set_option maxRecDepth 100000 in
theorem plain_54 (w : World) : Calls Try.prog 34 #[.int .u8 54] w (Post ((⟨#[97, 119, 97, 105, 116]⟩ : ByteArray), 0, false, 0, 1, 1, false, false) w) := by
  have hu55 := Try.underlying55
  go_enter Try.func34, Try.ntmps34
  go_wp2
  refine bodyPost_ret (results_cell_row rfl _ _ w.heap.size 55 _ (0, 0) _ rfl (blk_new w _) hu55 rfl (by kernel_rfl)) rfl ?_
  exact ⟨rfl, below_alloc (Below.refl _ _) _⟩
set_option maxHeartbeats 2000000 in
set_option maxRecDepth 100000 in
theorem plain_55 (w : World) : Calls Try.prog 34 #[.int .u8 55] w (Post ((⟨#[115, 101, 116, 116, 108, 101]⟩ : ByteArray), 0, false, 0, 1, 1, false, false) w) := by
  have hu55 := Try.underlying55
  go_enter Try.func34, Try.ntmps34
  go_wp2
  refine bodyPost_ret (results_cell_row rfl _ _ w.heap.size 55 _ (0, 0) _ rfl (blk_new w _) hu55 rfl (by kernel_rfl)) rfl ?_
  exact ⟨rfl, below_alloc (Below.refl _ _) _⟩
theorem ix_32 (W : World) : (Instr.index 98 (.agg #[.string ⟨#[101, 113]⟩, .string ⟨#[110, 101]⟩, .string ⟨#[108, 116]⟩, .string ⟨#[108, 101]⟩, .string ⟨#[97, 100, 100]⟩, .string ⟨#[115, 117, 98]⟩, .string ⟨#[109, 117, 108]⟩, .string ⟨#[100, 105, 118]⟩, .string ⟨#[109, 111, 100]⟩, .string ⟨#[110, 117, 109]⟩, .string ⟨#[97, 116]⟩, .string ⟨#[110, 111, 116]⟩, .string ⟨#[110, 101, 103]⟩, .string ⟨#[108, 101, 110]⟩, .string ⟨#[114, 101]⟩, .string ⟨#[105, 109]⟩, .string ⟨#[99, 111, 110, 106]⟩]) (.int .u8 0)).run Try.prog W = .ok (.string (⟨#[101, 113]⟩ : ByteArray)) W := by kernel_rfl
set_option maxHeartbeats 2000000 in
set_option maxRecDepth 100000 in
theorem plain_32 (w : World) : Calls Try.prog 34 #[.int .u8 32] w (Post ((⟨#[101, 113]⟩ : ByteArray), 0, false, 0, 2, 1, false, false) w) := by
  have hu55 := Try.underlying55
  have hix := ix_32
  go_enter Try.func34, Try.ntmps34
  go_wp2
  refine bodyPost_ret (results_cell_row rfl _ _ w.heap.size 55 _ (0, 0) _ rfl (blk_new w _) hu55 rfl (by kernel_rfl)) rfl ?_
  exact ⟨rfl, below_alloc (Below.refl _ _) _⟩
theorem ix_33 (W : World) : (Instr.index 98 (.agg #[.string ⟨#[101, 113]⟩, .string ⟨#[110, 101]⟩, .string ⟨#[108, 116]⟩, .string ⟨#[108, 101]⟩, .string ⟨#[97, 100, 100]⟩, .string ⟨#[115, 117, 98]⟩, .string ⟨#[109, 117, 108]⟩, .string ⟨#[100, 105, 118]⟩, .string ⟨#[109, 111, 100]⟩, .string ⟨#[110, 117, 109]⟩, .string ⟨#[97, 116]⟩, .string ⟨#[110, 111, 116]⟩, .string ⟨#[110, 101, 103]⟩, .string ⟨#[108, 101, 110]⟩, .string ⟨#[114, 101]⟩, .string ⟨#[105, 109]⟩, .string ⟨#[99, 111, 110, 106]⟩]) (.int .u8 1)).run Try.prog W = .ok (.string (⟨#[110, 101]⟩ : ByteArray)) W := by kernel_rfl
set_option maxHeartbeats 2000000 in
set_option maxRecDepth 100000 in
theorem plain_33 (w : World) : Calls Try.prog 34 #[.int .u8 33] w (Post ((⟨#[110, 101]⟩ : ByteArray), 0, false, 0, 2, 1, false, false) w) := by
  have hu55 := Try.underlying55
  have hix := ix_33
  go_enter Try.func34, Try.ntmps34
  go_wp2
  refine bodyPost_ret (results_cell_row rfl _ _ w.heap.size 55 _ (0, 0) _ rfl (blk_new w _) hu55 rfl (by kernel_rfl)) rfl ?_
  exact ⟨rfl, below_alloc (Below.refl _ _) _⟩
theorem ix_34 (W : World) : (Instr.index 98 (.agg #[.string ⟨#[101, 113]⟩, .string ⟨#[110, 101]⟩, .string ⟨#[108, 116]⟩, .string ⟨#[108, 101]⟩, .string ⟨#[97, 100, 100]⟩, .string ⟨#[115, 117, 98]⟩, .string ⟨#[109, 117, 108]⟩, .string ⟨#[100, 105, 118]⟩, .string ⟨#[109, 111, 100]⟩, .string ⟨#[110, 117, 109]⟩, .string ⟨#[97, 116]⟩, .string ⟨#[110, 111, 116]⟩, .string ⟨#[110, 101, 103]⟩, .string ⟨#[108, 101, 110]⟩, .string ⟨#[114, 101]⟩, .string ⟨#[105, 109]⟩, .string ⟨#[99, 111, 110, 106]⟩]) (.int .u8 2)).run Try.prog W = .ok (.string (⟨#[108, 116]⟩ : ByteArray)) W := by kernel_rfl
set_option maxHeartbeats 2000000 in
set_option maxRecDepth 100000 in
theorem plain_34 (w : World) : Calls Try.prog 34 #[.int .u8 34] w (Post ((⟨#[108, 116]⟩ : ByteArray), 0, false, 0, 2, 1, false, false) w) := by
  have hu55 := Try.underlying55
  have hix := ix_34
  go_enter Try.func34, Try.ntmps34
  go_wp2
  refine bodyPost_ret (results_cell_row rfl _ _ w.heap.size 55 _ (0, 0) _ rfl (blk_new w _) hu55 rfl (by kernel_rfl)) rfl ?_
  exact ⟨rfl, below_alloc (Below.refl _ _) _⟩
theorem ix_35 (W : World) : (Instr.index 98 (.agg #[.string ⟨#[101, 113]⟩, .string ⟨#[110, 101]⟩, .string ⟨#[108, 116]⟩, .string ⟨#[108, 101]⟩, .string ⟨#[97, 100, 100]⟩, .string ⟨#[115, 117, 98]⟩, .string ⟨#[109, 117, 108]⟩, .string ⟨#[100, 105, 118]⟩, .string ⟨#[109, 111, 100]⟩, .string ⟨#[110, 117, 109]⟩, .string ⟨#[97, 116]⟩, .string ⟨#[110, 111, 116]⟩, .string ⟨#[110, 101, 103]⟩, .string ⟨#[108, 101, 110]⟩, .string ⟨#[114, 101]⟩, .string ⟨#[105, 109]⟩, .string ⟨#[99, 111, 110, 106]⟩]) (.int .u8 3)).run Try.prog W = .ok (.string (⟨#[108, 101]⟩ : ByteArray)) W := by kernel_rfl
set_option maxHeartbeats 2000000 in
set_option maxRecDepth 100000 in
theorem plain_35 (w : World) : Calls Try.prog 34 #[.int .u8 35] w (Post ((⟨#[108, 101]⟩ : ByteArray), 0, false, 0, 2, 1, false, false) w) := by
  have hu55 := Try.underlying55
  have hix := ix_35
  go_enter Try.func34, Try.ntmps34
  go_wp2
  refine bodyPost_ret (results_cell_row rfl _ _ w.heap.size 55 _ (0, 0) _ rfl (blk_new w _) hu55 rfl (by kernel_rfl)) rfl ?_
  exact ⟨rfl, below_alloc (Below.refl _ _) _⟩
theorem ix_36 (W : World) : (Instr.index 98 (.agg #[.string ⟨#[101, 113]⟩, .string ⟨#[110, 101]⟩, .string ⟨#[108, 116]⟩, .string ⟨#[108, 101]⟩, .string ⟨#[97, 100, 100]⟩, .string ⟨#[115, 117, 98]⟩, .string ⟨#[109, 117, 108]⟩, .string ⟨#[100, 105, 118]⟩, .string ⟨#[109, 111, 100]⟩, .string ⟨#[110, 117, 109]⟩, .string ⟨#[97, 116]⟩, .string ⟨#[110, 111, 116]⟩, .string ⟨#[110, 101, 103]⟩, .string ⟨#[108, 101, 110]⟩, .string ⟨#[114, 101]⟩, .string ⟨#[105, 109]⟩, .string ⟨#[99, 111, 110, 106]⟩]) (.int .u8 4)).run Try.prog W = .ok (.string (⟨#[97, 100, 100]⟩ : ByteArray)) W := by kernel_rfl
set_option maxHeartbeats 2000000 in
set_option maxRecDepth 100000 in
theorem plain_36 (w : World) : Calls Try.prog 34 #[.int .u8 36] w (Post ((⟨#[97, 100, 100]⟩ : ByteArray), 0, false, 0, 2, 1, false, false) w) := by
  have hu55 := Try.underlying55
  have hix := ix_36
  go_enter Try.func34, Try.ntmps34
  go_wp2
  refine bodyPost_ret (results_cell_row rfl _ _ w.heap.size 55 _ (0, 0) _ rfl (blk_new w _) hu55 rfl (by kernel_rfl)) rfl ?_
  exact ⟨rfl, below_alloc (Below.refl _ _) _⟩
theorem ix_37 (W : World) : (Instr.index 98 (.agg #[.string ⟨#[101, 113]⟩, .string ⟨#[110, 101]⟩, .string ⟨#[108, 116]⟩, .string ⟨#[108, 101]⟩, .string ⟨#[97, 100, 100]⟩, .string ⟨#[115, 117, 98]⟩, .string ⟨#[109, 117, 108]⟩, .string ⟨#[100, 105, 118]⟩, .string ⟨#[109, 111, 100]⟩, .string ⟨#[110, 117, 109]⟩, .string ⟨#[97, 116]⟩, .string ⟨#[110, 111, 116]⟩, .string ⟨#[110, 101, 103]⟩, .string ⟨#[108, 101, 110]⟩, .string ⟨#[114, 101]⟩, .string ⟨#[105, 109]⟩, .string ⟨#[99, 111, 110, 106]⟩]) (.int .u8 5)).run Try.prog W = .ok (.string (⟨#[115, 117, 98]⟩ : ByteArray)) W := by kernel_rfl
set_option maxHeartbeats 2000000 in
set_option maxRecDepth 100000 in
theorem plain_37 (w : World) : Calls Try.prog 34 #[.int .u8 37] w (Post ((⟨#[115, 117, 98]⟩ : ByteArray), 0, false, 0, 2, 1, false, false) w) := by
  have hu55 := Try.underlying55
  have hix := ix_37
  go_enter Try.func34, Try.ntmps34
  go_wp2
  refine bodyPost_ret (results_cell_row rfl _ _ w.heap.size 55 _ (0, 0) _ rfl (blk_new w _) hu55 rfl (by kernel_rfl)) rfl ?_
  exact ⟨rfl, below_alloc (Below.refl _ _) _⟩
theorem ix_38 (W : World) : (Instr.index 98 (.agg #[.string ⟨#[101, 113]⟩, .string ⟨#[110, 101]⟩, .string ⟨#[108, 116]⟩, .string ⟨#[108, 101]⟩, .string ⟨#[97, 100, 100]⟩, .string ⟨#[115, 117, 98]⟩, .string ⟨#[109, 117, 108]⟩, .string ⟨#[100, 105, 118]⟩, .string ⟨#[109, 111, 100]⟩, .string ⟨#[110, 117, 109]⟩, .string ⟨#[97, 116]⟩, .string ⟨#[110, 111, 116]⟩, .string ⟨#[110, 101, 103]⟩, .string ⟨#[108, 101, 110]⟩, .string ⟨#[114, 101]⟩, .string ⟨#[105, 109]⟩, .string ⟨#[99, 111, 110, 106]⟩]) (.int .u8 6)).run Try.prog W = .ok (.string (⟨#[109, 117, 108]⟩ : ByteArray)) W := by kernel_rfl
set_option maxHeartbeats 2000000 in
set_option maxRecDepth 100000 in
theorem plain_38 (w : World) : Calls Try.prog 34 #[.int .u8 38] w (Post ((⟨#[109, 117, 108]⟩ : ByteArray), 0, false, 0, 2, 1, false, false) w) := by
  have hu55 := Try.underlying55
  have hix := ix_38
  go_enter Try.func34, Try.ntmps34
  go_wp2
  refine bodyPost_ret (results_cell_row rfl _ _ w.heap.size 55 _ (0, 0) _ rfl (blk_new w _) hu55 rfl (by kernel_rfl)) rfl ?_
  exact ⟨rfl, below_alloc (Below.refl _ _) _⟩
theorem ix_39 (W : World) : (Instr.index 98 (.agg #[.string ⟨#[101, 113]⟩, .string ⟨#[110, 101]⟩, .string ⟨#[108, 116]⟩, .string ⟨#[108, 101]⟩, .string ⟨#[97, 100, 100]⟩, .string ⟨#[115, 117, 98]⟩, .string ⟨#[109, 117, 108]⟩, .string ⟨#[100, 105, 118]⟩, .string ⟨#[109, 111, 100]⟩, .string ⟨#[110, 117, 109]⟩, .string ⟨#[97, 116]⟩, .string ⟨#[110, 111, 116]⟩, .string ⟨#[110, 101, 103]⟩, .string ⟨#[108, 101, 110]⟩, .string ⟨#[114, 101]⟩, .string ⟨#[105, 109]⟩, .string ⟨#[99, 111, 110, 106]⟩]) (.int .u8 7)).run Try.prog W = .ok (.string (⟨#[100, 105, 118]⟩ : ByteArray)) W := by kernel_rfl
set_option maxHeartbeats 2000000 in
set_option maxRecDepth 100000 in
theorem plain_39 (w : World) : Calls Try.prog 34 #[.int .u8 39] w (Post ((⟨#[100, 105, 118]⟩ : ByteArray), 0, false, 0, 2, 1, false, false) w) := by
  have hu55 := Try.underlying55
  have hix := ix_39
  go_enter Try.func34, Try.ntmps34
  go_wp2
  refine bodyPost_ret (results_cell_row rfl _ _ w.heap.size 55 _ (0, 0) _ rfl (blk_new w _) hu55 rfl (by kernel_rfl)) rfl ?_
  exact ⟨rfl, below_alloc (Below.refl _ _) _⟩
theorem ix_40 (W : World) : (Instr.index 98 (.agg #[.string ⟨#[101, 113]⟩, .string ⟨#[110, 101]⟩, .string ⟨#[108, 116]⟩, .string ⟨#[108, 101]⟩, .string ⟨#[97, 100, 100]⟩, .string ⟨#[115, 117, 98]⟩, .string ⟨#[109, 117, 108]⟩, .string ⟨#[100, 105, 118]⟩, .string ⟨#[109, 111, 100]⟩, .string ⟨#[110, 117, 109]⟩, .string ⟨#[97, 116]⟩, .string ⟨#[110, 111, 116]⟩, .string ⟨#[110, 101, 103]⟩, .string ⟨#[108, 101, 110]⟩, .string ⟨#[114, 101]⟩, .string ⟨#[105, 109]⟩, .string ⟨#[99, 111, 110, 106]⟩]) (.int .u8 8)).run Try.prog W = .ok (.string (⟨#[109, 111, 100]⟩ : ByteArray)) W := by kernel_rfl
set_option maxHeartbeats 2000000 in
set_option maxRecDepth 100000 in
theorem plain_40 (w : World) : Calls Try.prog 34 #[.int .u8 40] w (Post ((⟨#[109, 111, 100]⟩ : ByteArray), 0, false, 0, 2, 1, false, false) w) := by
  have hu55 := Try.underlying55
  have hix := ix_40
  go_enter Try.func34, Try.ntmps34
  go_wp2
  refine bodyPost_ret (results_cell_row rfl _ _ w.heap.size 55 _ (0, 0) _ rfl (blk_new w _) hu55 rfl (by kernel_rfl)) rfl ?_
  exact ⟨rfl, below_alloc (Below.refl _ _) _⟩
theorem ix_41 (W : World) : (Instr.index 98 (.agg #[.string ⟨#[101, 113]⟩, .string ⟨#[110, 101]⟩, .string ⟨#[108, 116]⟩, .string ⟨#[108, 101]⟩, .string ⟨#[97, 100, 100]⟩, .string ⟨#[115, 117, 98]⟩, .string ⟨#[109, 117, 108]⟩, .string ⟨#[100, 105, 118]⟩, .string ⟨#[109, 111, 100]⟩, .string ⟨#[110, 117, 109]⟩, .string ⟨#[97, 116]⟩, .string ⟨#[110, 111, 116]⟩, .string ⟨#[110, 101, 103]⟩, .string ⟨#[108, 101, 110]⟩, .string ⟨#[114, 101]⟩, .string ⟨#[105, 109]⟩, .string ⟨#[99, 111, 110, 106]⟩]) (.int .u8 9)).run Try.prog W = .ok (.string (⟨#[110, 117, 109]⟩ : ByteArray)) W := by kernel_rfl
set_option maxHeartbeats 2000000 in
set_option maxRecDepth 100000 in
theorem plain_41 (w : World) : Calls Try.prog 34 #[.int .u8 41] w (Post ((⟨#[110, 117, 109]⟩ : ByteArray), 0, false, 0, 2, 1, false, false) w) := by
  have hu55 := Try.underlying55
  have hix := ix_41
  go_enter Try.func34, Try.ntmps34
  go_wp2
  refine bodyPost_ret (results_cell_row rfl _ _ w.heap.size 55 _ (0, 0) _ rfl (blk_new w _) hu55 rfl (by kernel_rfl)) rfl ?_
  exact ⟨rfl, below_alloc (Below.refl _ _) _⟩
theorem ix_42 (W : World) : (Instr.index 98 (.agg #[.string ⟨#[101, 113]⟩, .string ⟨#[110, 101]⟩, .string ⟨#[108, 116]⟩, .string ⟨#[108, 101]⟩, .string ⟨#[97, 100, 100]⟩, .string ⟨#[115, 117, 98]⟩, .string ⟨#[109, 117, 108]⟩, .string ⟨#[100, 105, 118]⟩, .string ⟨#[109, 111, 100]⟩, .string ⟨#[110, 117, 109]⟩, .string ⟨#[97, 116]⟩, .string ⟨#[110, 111, 116]⟩, .string ⟨#[110, 101, 103]⟩, .string ⟨#[108, 101, 110]⟩, .string ⟨#[114, 101]⟩, .string ⟨#[105, 109]⟩, .string ⟨#[99, 111, 110, 106]⟩]) (.int .u8 10)).run Try.prog W = .ok (.string (⟨#[97, 116]⟩ : ByteArray)) W := by kernel_rfl
set_option maxHeartbeats 2000000 in
set_option maxRecDepth 100000 in
theorem plain_42 (w : World) : Calls Try.prog 34 #[.int .u8 42] w (Post ((⟨#[97, 116]⟩ : ByteArray), 0, false, 0, 2, 1, false, false) w) := by
  have hu55 := Try.underlying55
  have hix := ix_42
  go_enter Try.func34, Try.ntmps34
  go_wp2
  refine bodyPost_ret (results_cell_row rfl _ _ w.heap.size 55 _ (0, 0) _ rfl (blk_new w _) hu55 rfl (by kernel_rfl)) rfl ?_
  exact ⟨rfl, below_alloc (Below.refl _ _) _⟩
theorem ix_43 (W : World) : (Instr.index 98 (.agg #[.string ⟨#[101, 113]⟩, .string ⟨#[110, 101]⟩, .string ⟨#[108, 116]⟩, .string ⟨#[108, 101]⟩, .string ⟨#[97, 100, 100]⟩, .string ⟨#[115, 117, 98]⟩, .string ⟨#[109, 117, 108]⟩, .string ⟨#[100, 105, 118]⟩, .string ⟨#[109, 111, 100]⟩, .string ⟨#[110, 117, 109]⟩, .string ⟨#[97, 116]⟩, .string ⟨#[110, 111, 116]⟩, .string ⟨#[110, 101, 103]⟩, .string ⟨#[108, 101, 110]⟩, .string ⟨#[114, 101]⟩, .string ⟨#[105, 109]⟩, .string ⟨#[99, 111, 110, 106]⟩]) (.int .u8 11)).run Try.prog W = .ok (.string (⟨#[110, 111, 116]⟩ : ByteArray)) W := by kernel_rfl
set_option maxHeartbeats 2000000 in
set_option maxRecDepth 100000 in
theorem plain_43 (w : World) : Calls Try.prog 34 #[.int .u8 43] w (Post ((⟨#[110, 111, 116]⟩ : ByteArray), 0, false, 0, 1, 1, false, false) w) := by
  have hu55 := Try.underlying55
  have hix := ix_43
  go_enter Try.func34, Try.ntmps34
  go_wp2
  refine bodyPost_ret (results_cell_row rfl _ _ w.heap.size 55 _ (0, 0) _ rfl (blk_new w _) hu55 rfl (by kernel_rfl)) rfl ?_
  exact ⟨rfl, below_alloc (Below.refl _ _) _⟩
theorem ix_44 (W : World) : (Instr.index 98 (.agg #[.string ⟨#[101, 113]⟩, .string ⟨#[110, 101]⟩, .string ⟨#[108, 116]⟩, .string ⟨#[108, 101]⟩, .string ⟨#[97, 100, 100]⟩, .string ⟨#[115, 117, 98]⟩, .string ⟨#[109, 117, 108]⟩, .string ⟨#[100, 105, 118]⟩, .string ⟨#[109, 111, 100]⟩, .string ⟨#[110, 117, 109]⟩, .string ⟨#[97, 116]⟩, .string ⟨#[110, 111, 116]⟩, .string ⟨#[110, 101, 103]⟩, .string ⟨#[108, 101, 110]⟩, .string ⟨#[114, 101]⟩, .string ⟨#[105, 109]⟩, .string ⟨#[99, 111, 110, 106]⟩]) (.int .u8 12)).run Try.prog W = .ok (.string (⟨#[110, 101, 103]⟩ : ByteArray)) W := by kernel_rfl
set_option maxHeartbeats 2000000 in
set_option maxRecDepth 100000 in
theorem plain_44 (w : World) : Calls Try.prog 34 #[.int .u8 44] w (Post ((⟨#[110, 101, 103]⟩ : ByteArray), 0, false, 0, 1, 1, false, false) w) := by
  have hu55 := Try.underlying55
  have hix := ix_44
  go_enter Try.func34, Try.ntmps34
  go_wp2
  refine bodyPost_ret (results_cell_row rfl _ _ w.heap.size 55 _ (0, 0) _ rfl (blk_new w _) hu55 rfl (by kernel_rfl)) rfl ?_
  exact ⟨rfl, below_alloc (Below.refl _ _) _⟩
theorem ix_45 (W : World) : (Instr.index 98 (.agg #[.string ⟨#[101, 113]⟩, .string ⟨#[110, 101]⟩, .string ⟨#[108, 116]⟩, .string ⟨#[108, 101]⟩, .string ⟨#[97, 100, 100]⟩, .string ⟨#[115, 117, 98]⟩, .string ⟨#[109, 117, 108]⟩, .string ⟨#[100, 105, 118]⟩, .string ⟨#[109, 111, 100]⟩, .string ⟨#[110, 117, 109]⟩, .string ⟨#[97, 116]⟩, .string ⟨#[110, 111, 116]⟩, .string ⟨#[110, 101, 103]⟩, .string ⟨#[108, 101, 110]⟩, .string ⟨#[114, 101]⟩, .string ⟨#[105, 109]⟩, .string ⟨#[99, 111, 110, 106]⟩]) (.int .u8 13)).run Try.prog W = .ok (.string (⟨#[108, 101, 110]⟩ : ByteArray)) W := by kernel_rfl
set_option maxHeartbeats 2000000 in
set_option maxRecDepth 100000 in
theorem plain_45 (w : World) : Calls Try.prog 34 #[.int .u8 45] w (Post ((⟨#[108, 101, 110]⟩ : ByteArray), 0, false, 0, 1, 1, false, false) w) := by
  have hu55 := Try.underlying55
  have hix := ix_45
  go_enter Try.func34, Try.ntmps34
  go_wp2
  refine bodyPost_ret (results_cell_row rfl _ _ w.heap.size 55 _ (0, 0) _ rfl (blk_new w _) hu55 rfl (by kernel_rfl)) rfl ?_
  exact ⟨rfl, below_alloc (Below.refl _ _) _⟩
theorem ix_46 (W : World) : (Instr.index 98 (.agg #[.string ⟨#[101, 113]⟩, .string ⟨#[110, 101]⟩, .string ⟨#[108, 116]⟩, .string ⟨#[108, 101]⟩, .string ⟨#[97, 100, 100]⟩, .string ⟨#[115, 117, 98]⟩, .string ⟨#[109, 117, 108]⟩, .string ⟨#[100, 105, 118]⟩, .string ⟨#[109, 111, 100]⟩, .string ⟨#[110, 117, 109]⟩, .string ⟨#[97, 116]⟩, .string ⟨#[110, 111, 116]⟩, .string ⟨#[110, 101, 103]⟩, .string ⟨#[108, 101, 110]⟩, .string ⟨#[114, 101]⟩, .string ⟨#[105, 109]⟩, .string ⟨#[99, 111, 110, 106]⟩]) (.int .u8 14)).run Try.prog W = .ok (.string (⟨#[114, 101]⟩ : ByteArray)) W := by kernel_rfl
set_option maxHeartbeats 2000000 in
set_option maxRecDepth 100000 in
theorem plain_46 (w : World) : Calls Try.prog 34 #[.int .u8 46] w (Post ((⟨#[114, 101]⟩ : ByteArray), 0, false, 0, 1, 1, false, false) w) := by
  have hu55 := Try.underlying55
  have hix := ix_46
  go_enter Try.func34, Try.ntmps34
  go_wp2
  refine bodyPost_ret (results_cell_row rfl _ _ w.heap.size 55 _ (0, 0) _ rfl (blk_new w _) hu55 rfl (by kernel_rfl)) rfl ?_
  exact ⟨rfl, below_alloc (Below.refl _ _) _⟩
theorem ix_47 (W : World) : (Instr.index 98 (.agg #[.string ⟨#[101, 113]⟩, .string ⟨#[110, 101]⟩, .string ⟨#[108, 116]⟩, .string ⟨#[108, 101]⟩, .string ⟨#[97, 100, 100]⟩, .string ⟨#[115, 117, 98]⟩, .string ⟨#[109, 117, 108]⟩, .string ⟨#[100, 105, 118]⟩, .string ⟨#[109, 111, 100]⟩, .string ⟨#[110, 117, 109]⟩, .string ⟨#[97, 116]⟩, .string ⟨#[110, 111, 116]⟩, .string ⟨#[110, 101, 103]⟩, .string ⟨#[108, 101, 110]⟩, .string ⟨#[114, 101]⟩, .string ⟨#[105, 109]⟩, .string ⟨#[99, 111, 110, 106]⟩]) (.int .u8 15)).run Try.prog W = .ok (.string (⟨#[105, 109]⟩ : ByteArray)) W := by kernel_rfl
set_option maxHeartbeats 2000000 in
set_option maxRecDepth 100000 in
theorem plain_47 (w : World) : Calls Try.prog 34 #[.int .u8 47] w (Post ((⟨#[105, 109]⟩ : ByteArray), 0, false, 0, 1, 1, false, false) w) := by
  have hu55 := Try.underlying55
  have hix := ix_47
  go_enter Try.func34, Try.ntmps34
  go_wp2
  refine bodyPost_ret (results_cell_row rfl _ _ w.heap.size 55 _ (0, 0) _ rfl (blk_new w _) hu55 rfl (by kernel_rfl)) rfl ?_
  exact ⟨rfl, below_alloc (Below.refl _ _) _⟩
theorem ix_48 (W : World) : (Instr.index 98 (.agg #[.string ⟨#[101, 113]⟩, .string ⟨#[110, 101]⟩, .string ⟨#[108, 116]⟩, .string ⟨#[108, 101]⟩, .string ⟨#[97, 100, 100]⟩, .string ⟨#[115, 117, 98]⟩, .string ⟨#[109, 117, 108]⟩, .string ⟨#[100, 105, 118]⟩, .string ⟨#[109, 111, 100]⟩, .string ⟨#[110, 117, 109]⟩, .string ⟨#[97, 116]⟩, .string ⟨#[110, 111, 116]⟩, .string ⟨#[110, 101, 103]⟩, .string ⟨#[108, 101, 110]⟩, .string ⟨#[114, 101]⟩, .string ⟨#[105, 109]⟩, .string ⟨#[99, 111, 110, 106]⟩]) (.int .u8 16)).run Try.prog W = .ok (.string (⟨#[99, 111, 110, 106]⟩ : ByteArray)) W := by kernel_rfl
set_option maxHeartbeats 2000000 in
set_option maxRecDepth 100000 in
theorem plain_48 (w : World) : Calls Try.prog 34 #[.int .u8 48] w (Post ((⟨#[99, 111, 110, 106]⟩ : ByteArray), 0, false, 0, 1, 1, false, false) w) := by
  have hu55 := Try.underlying55
  have hix := ix_48
  go_enter Try.func34, Try.ntmps34
  go_wp2
  refine bodyPost_ret (results_cell_row rfl _ _ w.heap.size 55 _ (0, 0) _ rfl (blk_new w _) hu55 rfl (by kernel_rfl)) rfl ?_
  exact ⟨rfl, below_alloc (Below.refl _ _) _⟩
set_option maxHeartbeats 2000000 in
set_option maxRecDepth 100000 in
theorem plain_no (w : World) (a0 : Int) (h5 : a0 ≠ 5) (h6 : a0 ≠ 6) (h10 : a0 ≠ 10) (h20 : a0 ≠ 20) (h21 : a0 ≠ 21) (h22 : a0 ≠ 22) (h57 : a0 ≠ 57) (h52 : a0 ≠ 52) (h54 : a0 ≠ 54) (h55 : a0 ≠ 55) (h32 : ¬ (32 ≤ a0 ∧ a0 ≤ 48)) : Calls Try.prog 34 #[.int .u8 a0] w (Post (⟨#[]⟩, 0, false, 0, 0, 0, false, false) w) := by
  have hu55 := Try.underlying55
  have e5 : (a0 == 5) = false := beq_eq_false_iff_ne.mpr h5
  have e6 : (a0 == 6) = false := beq_eq_false_iff_ne.mpr h6
  have e10 : (a0 == 10) = false := beq_eq_false_iff_ne.mpr h10
  have e20 : (a0 == 20) = false := beq_eq_false_iff_ne.mpr h20
  have e21 : (a0 == 21) = false := beq_eq_false_iff_ne.mpr h21
  have e22 : (a0 == 22) = false := beq_eq_false_iff_ne.mpr h22
  have e57 : (a0 == 57) = false := beq_eq_false_iff_ne.mpr h57
  have e52 : (a0 == 52) = false := beq_eq_false_iff_ne.mpr h52
  have e54 : (a0 == 54) = false := beq_eq_false_iff_ne.mpr h54
  have e55 : (a0 == 55) = false := beq_eq_false_iff_ne.mpr h55
  have c : decide (a0 ≥ 32) = false ∨ (decide (a0 ≥ 32) = true ∧ decide (a0 ≤ 48) = false) := by
    by_cases h : a0 ≥ 32
    · exact .inr ⟨decide_eq_true h, decide_eq_false (by omega)⟩
    · exact .inl (decide_eq_false h)
  clear h32 h5 h6 h10 h20 h21 h22 h57 h52 h54 h55
  rcases c with c | ⟨c, c'⟩
  all_goals
    go_enter Try.func34, Try.ntmps34
    go_wp2
    refine bodyPost_ret (results_cell_row rfl _ _ w.heap.size 55 _ (0, 0) _ rfl (blk_new w _) hu55 rfl (by kernel_rfl)) rfl ?_
    exact ⟨rfl, below_alloc (Below.refl _ _) _⟩
theorem plain_calls (w : World) (a0 : Int) (r : ByteArray × Int × Bool × Int × Int × Int × Bool × Bool) (h : plainT a0 = some r) : Calls Try.prog 34 #[.int .u8 a0] w (Post r w) := by
  by_cases h5 : a0 = 5
  · subst h5
    simp only [plainT] at h
    simp at h
    subst h
    exact plain_5 w
  by_cases h6 : a0 = 6
  · subst h6
    simp only [plainT] at h
    simp at h
    subst h
    exact plain_6 w
  by_cases h10 : a0 = 10
  · subst h10
    simp only [plainT] at h
    simp at h
    subst h
    exact plain_10 w
  by_cases h20 : a0 = 20
  · subst h20
    simp only [plainT] at h
    simp at h
    subst h
    exact plain_20 w
  by_cases h21 : a0 = 21
  · subst h21
    simp only [plainT] at h
    simp at h
    subst h
    exact plain_21 w
  by_cases h22 : a0 = 22
  · subst h22
    simp only [plainT] at h
    simp at h
    subst h
    exact plain_22 w
  by_cases h57 : a0 = 57
  · subst h57
    simp only [plainT] at h
    simp at h
    subst h
    exact plain_57 w
  by_cases h52 : a0 = 52
  · subst h52
    simp only [plainT] at h
    simp at h
    subst h
    exact plain_52 w
  by_cases h54 : a0 = 54
  · subst h54
    simp only [plainT] at h
    simp at h
    subst h
    exact plain_54 w
  by_cases h55 : a0 = 55
  · subst h55
    simp only [plainT] at h
    simp at h
    subst h
    exact plain_55 w
  by_cases h32 : a0 = 32
  · subst h32
    simp only [plainT] at h
    simp at h
    subst h
    exact plain_32 w
  by_cases h33 : a0 = 33
  · subst h33
    simp only [plainT] at h
    simp at h
    subst h
    exact plain_33 w
  by_cases h34 : a0 = 34
  · subst h34
    simp only [plainT] at h
    simp at h
    subst h
    exact plain_34 w
  by_cases h35 : a0 = 35
  · subst h35
    simp only [plainT] at h
    simp at h
    subst h
    exact plain_35 w
  by_cases h36 : a0 = 36
  · subst h36
    simp only [plainT] at h
    simp at h
    subst h
    exact plain_36 w
  by_cases h37 : a0 = 37
  · subst h37
    simp only [plainT] at h
    simp at h
    subst h
    exact plain_37 w
  by_cases h38 : a0 = 38
  · subst h38
    simp only [plainT] at h
    simp at h
    subst h
    exact plain_38 w
  by_cases h39 : a0 = 39
  · subst h39
    simp only [plainT] at h
    simp at h
    subst h
    exact plain_39 w
  by_cases h40 : a0 = 40
  · subst h40
    simp only [plainT] at h
    simp at h
    subst h
    exact plain_40 w
  by_cases h41 : a0 = 41
  · subst h41
    simp only [plainT] at h
    simp at h
    subst h
    exact plain_41 w
  by_cases h42 : a0 = 42
  · subst h42
    simp only [plainT] at h
    simp at h
    subst h
    exact plain_42 w
  by_cases h43 : a0 = 43
  · subst h43
    simp only [plainT] at h
    simp at h
    subst h
    exact plain_43 w
  by_cases h44 : a0 = 44
  · subst h44
    simp only [plainT] at h
    simp at h
    subst h
    exact plain_44 w
  by_cases h45 : a0 = 45
  · subst h45
    simp only [plainT] at h
    simp at h
    subst h
    exact plain_45 w
  by_cases h46 : a0 = 46
  · subst h46
    simp only [plainT] at h
    simp at h
    subst h
    exact plain_46 w
  by_cases h47 : a0 = 47
  · subst h47
    simp only [plainT] at h
    simp at h
    subst h
    exact plain_47 w
  by_cases h48 : a0 = 48
  · subst h48
    simp only [plainT] at h
    simp at h
    subst h
    exact plain_48 w
  unfold plainT at h
  rw [if_neg h5, if_neg h6, if_neg h10, if_neg h20, if_neg h21, if_neg h22, if_neg h57, if_neg h52, if_neg h54, if_neg h55, if_neg h32, if_neg h33, if_neg h34, if_neg h35, if_neg h36, if_neg h37, if_neg h38, if_neg h39, if_neg h40, if_neg h41, if_neg h42, if_neg h43, if_neg h44, if_neg h45, if_neg h46, if_neg h47, if_neg h48] at h
  cases h
  exact plain_no w a0 h5 h6 h10 h20 h21 h22 h57 h52 h54 h55 (by omega)
end Go.Proofs.Ytcpjjnikehcleaa.Pl
