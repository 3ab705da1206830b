/- Written by a program of this seat's session. -/
import Derived.Test.YthjodjfjeamilaaProg
import Derived.Below
import Derived.Deep.Draws
import Derived.Deep.AppendLies
import Derived.Maps.AppendAt
import Derived.OwnWalk
import Derived.Laws.BytesArg
import Derived.Laws.MakeOwn
import Derived.Laws.OwnMore
import Derived.Deep.OwnRows
import Derived.Tactics
import Derived.Lib.ConvBytes
import Derived.Laws.Slices
import Derived.WalkKit
import Derived.KernelRfl
import Derived.RowKit3
import Derived.Deep.LoopGhost
import Derived.Deep.QuietTactic
import Derived.BigQuiet
import Derived.WideLaws
import Derived.Deep.DeepCutAuto
import Derived.Deep.CutBlock
import Derived.Deep.RegionHeld3
import Derived.Laws.Rows
import Derived.Lib.AppendStr
import Derived.ArgAppend
import Derived.Laws.IdiomCopy
import Derived.OrdersHeld
import Derived.Laws.BitsLemmas
import Derived.RowKit
import Derived.Test.YthjodjfjeamilaaWid
import Derived.Test.YthjodjfjeamilaaWWords
import Derived.Test.YthjodjfjeamilaaWLast
import Derived.Test.YthjodjfjeamilaaWTab
import Derived.Test.YthjodjfjeamilaaWFour
import Derived.Test.YthjodjfjeamilaaWQPut
import Derived.Test.YthjodjfjeamilaaWApart
import Derived.Test.YthjodjfjeamilaaWArr
import Derived.Test.YthjodjfjeamilaaWZeros
import Derived.Test.YthjodjfjeamilaaWFoot
import Derived.Test.YthjodjfjeamilaaWKept
import Derived.Test.YthjodjfjeamilaaWShare
import Derived.Test.YthjodjfjeamilaaWN
import Derived.Test.YthjodjfjeamilaaWFootNe
import Derived.Test.YthjodjfjeamilaaWAt
import Derived.Test.YthjodjfjeamilaaWEqStruct
import Derived.Test.YthjodjfjeamilaaWRepsOne
import Derived.Test.YthjodjfjeamilaaWInv
import Derived.Test.YthjodjfjeamilaaWInvWords
import Derived.Test.YthjodjfjeamilaaWGuard
import Derived.Test.YthjodjfjeamilaaWNEv
import Derived.Test.YthjodjfjeamilaaWMore
namespace Go.Proofs.Ythjodjfjeamilaa.PB
open Go.RowKit Go.Proofs.Ythjodjfjeamilaa.PA Go.Proofs.YthjodjfjeamilaaW.PrintWords Go.Proofs.YthjodjfjeamilaaW.PrintLast Go.Proofs.YthjodjfjeamilaaW.PrintMore
attribute [local go_sem] max2_int min2_int max_two min_two max_three min_three max_four min_four   -- for this text's walks alone
set_option linter.unusedVariables false
set_option linter.unusedSimpArgs false



def rd_L2 (xs : List (List (List Int))) (i : Int) : (List (List Int)) := xs.getD i.toNat ([] : List (List Int))
theorem at_L2 {w : World} {A : Option Addr} {n : Nat} {xs : List (List (List Int))} (h : Kd.C (Kd.slice 24 (Kd.slice 5 (Kd.int .u8))) w A n xs) (i : Int) (h0 : 0 ≤ i) (h1 : i < n) : ∃ ad A0 c0, A = some ad ∧ w.cell? (ad.add i.toNat) = some (.slice A0 (rd_L2 xs i).length c0) ∧ (rd_L2 xs i).length ≤ c0 ∧ (Kd.slice 5 (Kd.int .u8)).C w A0 (rd_L2 xs i).length (rd_L2 xs i) := by
  obtain ⟨ad, c, e, _, hK, hc0⟩ := Kd.C_get h ([] : List (List Int)) i h0 h1
  have hc : ∀ j u, c[j]? = some u → w.cell? (ad.add (i.toNat * 1 + j)) = some u := hc0
  obtain ⟨A0, c0, rfl, l0, g0⟩ := hK
  exact ⟨ad, A0, c0, e, by have hq := hc 0 _ rfl; rwa [Nat.mul_one, Nat.add_zero] at hq, l0, g0⟩

end Go.Proofs.Ythjodjfjeamilaa.PB
