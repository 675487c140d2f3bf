-- Written by a program of this session, out of the translation, with what this session proved by hand taken in.
import Derived.Test.YtealggjnnihejaaPELawx0
import Derived.Test.YtealggjnnihejaaPELawx1
import Derived.Test.YtealggjnnihejaaPELawx2
namespace Go.Proofs.Ytealggjnnihejaa.PELaw
open Go.RowKit Go.Proofs.YtealggjnnihejaaW.PrintWords Go.Proofs.YtealggjnnihejaaW.PrintLast Go.Proofs.YtealggjnnihejaaW.PrintMore
attribute [local go_sem] max2_int min2_int max_two min_two max_three min_three max_four min_four   -- for this text's walks alone
set_option linter.unusedVariables false
set_option linter.unusedSimpArgs false

end Go.Proofs.Ytealggjnnihejaa.PELaw
