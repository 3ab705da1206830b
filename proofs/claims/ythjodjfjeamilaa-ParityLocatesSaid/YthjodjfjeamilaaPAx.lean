/- Written by a program of this seat's session. -/
import Derived.Test.YthjodjfjeamilaaPAx0
import Derived.Test.YthjodjfjeamilaaPAx1
import Derived.Test.YthjodjfjeamilaaPAx2
import Derived.Test.YthjodjfjeamilaaPAx3
import Derived.Test.YthjodjfjeamilaaPAx4
namespace Go.Proofs.Ythjodjfjeamilaa.PA
open Go.RowKit Go.Proofs.YthjodjfjeamilaaW.PrintWords Go.Proofs.YthjodjfjeamilaaW.PrintLast Go.Proofs.YthjodjfjeamilaaW.PrintMore
attribute [local go_sem] max2_int min2_int max_two min_two max_three min_three max_four min_four   -- for this text's walks alone
set_option linter.unusedVariables false
set_option linter.unusedSimpArgs false

end Go.Proofs.Ythjodjfjeamilaa.PA
