/- The law's own code. -/
import Derived.Test.YtcpjjnikehcleaaPLwx1
namespace Go.Proofs.Ytcpjjnikehcleaa.Rt
open Go.RowKit PChk Hq Lk Gw Go.Proofs.YtcpjjnikehcleaaW.PrintWords Go.Proofs.YtcpjjnikehcleaaW.PrintLast Go.Proofs.YtcpjjnikehcleaaW.PrintMore
set_option linter.unusedVariables false
set_option linter.unusedSimpArgs false

theorem adds_check : instr_Check.f addsL 1 = some (1, 2, 0, 0) := by
  unfold instr_Check.f
  rw [if_pos (by decide)]
  unfold checkP
  rw [adds_ok]
  show some (slotsP addsL 1, stackP [0, 1, 2, 1, -1], 0, 0) = _
  rw [show slotsP addsL 1 = 1 from by kernel_rfl, show stackP [0, 1, 2, 1, -1] = 2 from by kernel_rfl]
theorem awake_is : prompterlaw14_awake.f = some true := by
  unfold prompterlaw14_awake.f prompterlaw14_adds.f
  rw [Option.bind_some]
  show (instr_Check.f addsL 1).bind _ = _
  rw [adds_check]
  rfl
end Go.Proofs.Ytcpjjnikehcleaa.Rt
