-- Written by a program of this session, out of the translation, with what this session proved by hand taken in.
import Derived.Test.YtcfdldgekfacfaaPRefx0
import Derived.Test.YtcfdldgekfacfaaPRefx1
import Derived.Test.YtcfdldgekfacfaaPRefx2
import Derived.Test.YtcfdldgekfacfaaPRefx3
namespace Go.Proofs.Ytcfdldgekfacfaa.PRef
open Go.RowKit Go.Proofs.YtcfdldgekfacfaaW.PrintWords Go.Proofs.YtcfdldgekfacfaaW.PrintLast Go.Proofs.YtcfdldgekfacfaaW.PrintMore
attribute [local go_sem] max2_int min2_int max_two min_two max_three min_three max_four min_four   -- for this text's walks alone
set_option linter.unusedVariables false
set_option linter.unusedSimpArgs false

end Go.Proofs.Ytcfdldgekfacfaa.PRef
