/- Written by a program of this seat's session. -/
import Derived.Test.YthjodjfjeamilaaProg
import Derived.Below
import Derived.Deep.Draws
import Derived.Deep.AppendLies
import Derived.Maps.AppendAt
import Derived.OwnWalk
import Derived.Laws.BytesArg
import Derived.Laws.MakeOwn
import Derived.Laws.OwnMore
import Derived.Deep.OwnRows
import Derived.Tactics
import Derived.Lib.ConvBytes
import Derived.Laws.Slices
import Derived.WalkKit
import Derived.KernelRfl
import Derived.RowKit3
import Derived.Deep.LoopGhost
import Derived.Deep.QuietTactic
import Derived.BigQuiet
import Derived.WideLaws
import Derived.Deep.DeepCutAuto
import Derived.Deep.CutBlock
import Derived.Deep.RegionHeld3
import Derived.Laws.Rows
import Derived.Lib.AppendStr
import Derived.ArgAppend
import Derived.Laws.IdiomCopy
import Derived.OrdersHeld
import Derived.Laws.BitsLemmas
import Derived.RowKit
import Derived.Test.YthjodjfjeamilaaRcvA
import Derived.Test.YthjodjfjeamilaaPBx
import Derived.Test.YthjodjfjeamilaaWWords
import Derived.Test.YthjodjfjeamilaaWLast
import Derived.Test.YthjodjfjeamilaaWTab
import Derived.Test.YthjodjfjeamilaaWFour
import Derived.Test.YthjodjfjeamilaaWQPut
import Derived.Test.YthjodjfjeamilaaWApart
import Derived.Test.YthjodjfjeamilaaWArr
import Derived.Test.YthjodjfjeamilaaWZeros
import Derived.Test.YthjodjfjeamilaaWFoot
import Derived.Test.YthjodjfjeamilaaWKept
import Derived.Test.YthjodjfjeamilaaWShare
import Derived.Test.YthjodjfjeamilaaWN
import Derived.Test.YthjodjfjeamilaaWFootNe
import Derived.Test.YthjodjfjeamilaaWAt
import Derived.Test.YthjodjfjeamilaaWEqStruct
import Derived.Test.YthjodjfjeamilaaWRepsOne
import Derived.Test.YthjodjfjeamilaaWInv
import Derived.Test.YthjodjfjeamilaaWInvWords
import Derived.Test.YthjodjfjeamilaaWGuard
import Derived.Test.YthjodjfjeamilaaWNEv
import Derived.Test.YthjodjfjeamilaaWMore
namespace Go.Proofs.Ythjodjfjeamilaa.PD
open Go.RowKit Go.Proofs.Ythjodjfjeamilaa.PA Go.Proofs.Ythjodjfjeamilaa.PB Go.Proofs.YthjodjfjeamilaaW.PrintWords Go.Proofs.YthjodjfjeamilaaW.PrintLast Go.Proofs.YthjodjfjeamilaaW.PrintMore
attribute [local go_sem] max2_int min2_int max_two min_two max_three min_three max_four min_four   -- for this text's walks alone
set_option linter.unusedVariables false
set_option linter.unusedSimpArgs false




end Go.Proofs.Ythjodjfjeamilaa.PD
