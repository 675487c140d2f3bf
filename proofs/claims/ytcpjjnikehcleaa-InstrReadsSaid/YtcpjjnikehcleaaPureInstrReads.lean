/- What InstrReads comes to holds of whatever bytes. -/
import Derived.Test.YtcpjjnikehcleaaPRdx4
import Derived.Test.YtcpjjnikehcleaaSa
namespace Go.Proofs.Ytcpjjnikehcleaa.Pure
open Go.RowKit Go.Proofs.Ytcpjjnikehcleaa.PChk Go.Proofs.YtcpjjnikehcleaaW.PrintWords Go.Proofs.YtcpjjnikehcleaaW.PrintLast

theorem InstrReads : prompterlaw14_InstrReads.Pure := by
  intro l0 _ _ hw
  refine Sr.reads_true (fun x hx => ?_)
  have := hw x hx
  simp [Lit.wf, IntKind.min, IntKind.max, IntKind.bits, IntKind.signed] at this
  omega
end Go.Proofs.Ytcpjjnikehcleaa.Pure
