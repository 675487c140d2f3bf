-- Written by a program of this session, out of the translation, with what this session proved by hand taken in.
import Derived.Test.YtealggjnnihejaaProg
import Derived.Below
import Derived.Deep.Draws
import Derived.Deep.AppendLies
import Derived.Maps.AppendAt
import Derived.OwnWalk
import Derived.Laws.BytesArg
import Derived.Laws.MakeOwn
import Derived.Laws.OwnMore
import Derived.Deep.OwnRows
import Derived.Tactics
import Derived.Lib.ConvBytes
import Derived.Laws.Slices
import Derived.WalkKit
import Derived.KernelRfl
import Derived.RowKit3
import Derived.Deep.LoopGhost
import Derived.Deep.QuietTactic
import Derived.BigQuiet
import Derived.WideLaws
import Derived.Deep.DeepCutAuto
import Derived.Deep.CutBlock
import Derived.Deep.RegionHeld3
import Derived.Laws.Rows
import Derived.Lib.AppendStr
import Derived.ArgAppend
import Derived.Laws.IdiomCopy
import Derived.OrdersHeld
import Derived.Laws.BitsLemmas
import Derived.RowKit
import Derived.Test.YtealggjnnihejaaTa
import Derived.Test.YtealggjnnihejaaWWords
import Derived.Test.YtealggjnnihejaaWLast
import Derived.Test.YtealggjnnihejaaWTab
import Derived.Test.YtealggjnnihejaaWFour
import Derived.Test.YtealggjnnihejaaWQPut
import Derived.Test.YtealggjnnihejaaWApart
import Derived.Test.YtealggjnnihejaaWArr
import Derived.Test.YtealggjnnihejaaWZeros
import Derived.Test.YtealggjnnihejaaWFoot
import Derived.Test.YtealggjnnihejaaWKept
import Derived.Test.YtealggjnnihejaaWShare
import Derived.Test.YtealggjnnihejaaWN
import Derived.Test.YtealggjnnihejaaWFootNe
import Derived.Test.YtealggjnnihejaaWAt
import Derived.Test.YtealggjnnihejaaWEqStruct
import Derived.Test.YtealggjnnihejaaWRepsOne
import Derived.Test.YtealggjnnihejaaWInv
import Derived.Test.YtealggjnnihejaaWInvWords
import Derived.Test.YtealggjnnihejaaWGuard
import Derived.Test.YtealggjnnihejaaWNEv
import Derived.Test.YtealggjnnihejaaWMore
namespace Go.Proofs.Ytealggjnnihejaa.PELaw
open Go.RowKit Go.Proofs.YtealggjnnihejaaW.PrintWords Go.Proofs.YtealggjnnihejaaW.PrintLast Go.Proofs.YtealggjnnihejaaW.PrintMore
attribute [local go_sem] max2_int min2_int max_two min_two max_three min_three max_four min_four   -- for this text's walks alone
set_option linter.unusedVariables false
set_option linter.unusedSimpArgs false



def errW : Option Int → Value
  | none => .nilIface
  | some c => .iface 0 (.int .i64 c)
theorem errW_none : errW none = .nilIface := rfl
theorem errW_some (c : Int) : errW (some c) = .iface 0 (.int .i64 c) := rfl

theorem info2 : (Try.prog.info? 2).map (fun i => (i.zero, i.size, i.bytes)) = some (some (.int .i64 0), 1, 8) := by kernel_rfl
-- the values' own types

end Go.Proofs.Ytealggjnnihejaa.PELaw
