/-
  No cell of these rows narrows 'for every input' (looked for: loops, veiled, ifaces, maps, wideKeys, modest, calm, conditions, laid).
  DERIVED. THE GIVEN ROWS OF THIS SEAT. 7 by the template 'for every input the law returns true; each argument reads behind the call as it read before'; 0 by the template 'total and deterministic' (their statements: YthjodjfjeamilaaTotals.lean).
  GIVEN WITH THE SEED: the statements are not yours to turn. If you find one false, say at which input.
  Laid BY PROGRAM, IN A SANDBOX (cutbox-rows.mjs): the forced cells as the released guide's own fill.sh prints them over the translation fe176a3f72b52c94… (all of the seat's roots in one cut). By AI agents, Wed Nov 11 2026. No macro, syntax, notation, axiom, sorry.
-/
import Derived.Test.YthjodjfjeamilaaChecked
import GoSem.Claim
import GoSem.ClaimJoined
import GoSem.ClaimMapViews
import Derived.JoinedTies
import Derived.KernelRfl
namespace Go.Proofs.Ythjodjfjeamilaa
/- THE CELL 'sum', in the pinned program and in every row, IS THE sha256 OF THE DUMP (.gsa) THAT YthjodjfjeamilaaProg.lean LOADS. Nothing in Lean hashes anything: it is a label: what it is worth is what the hold of that sum in a sandbox is worth. -/
noncomputable def Try.pinned : Pinned := { name := "ythjodjfjeamilaa", sum := "fe176a3f72b52c94e10e06f81eb24450175883ddfd4d6c13f8da7083f3e46aef", checked := Try.checked }
namespace Rows
def none {H : Type} : Left H := { results := [], args := [] }

/-- 'ravelinlaw05.ParityEncodes': WHATEVER THE INPUT: true; the input reads as it did. -/
def parityEncodesSpec : ChangeSpec := { name := "parityEncodes", fn := fun _ => fun
  | [d] => { results := [.lit (.bool true)], args := [d] }
  | _ => none }
def parityEncodesRow : OpenClaim := { program := "ythjodjfjeamilaa", sum := "fe176a3f72b52c94e10e06f81eb24450175883ddfd4d6c13f8da7083f3e46aef", func := "ravelin/ravelinlaw05.ParityEncodes", spec := "parityEncodes", apart := false }
def ParityEncodesSaid : Prop := parityEncodesRow.holds Try.pinned (OpenSpec.ofChange parityEncodesSpec)

/-- ITS FALSE NEIGHBOUR: 'it returns false'. Refute it at one input. -/
def parityEncodesWrong : ChangeSpec := { name := "parityEncodes", fn := fun _ => fun
  | [d] => { results := [.lit (.bool false)], args := [d] }
  | _ => none }
def ParityEncodesWrongFalsely : Prop := parityEncodesRow.holds Try.pinned (OpenSpec.ofChange parityEncodesWrong)

/-- 'ravelinlaw05.ParitySums': WHATEVER THE INPUT: true; the input reads as it did. -/
def paritySumsSpec : ChangeSpec := { name := "paritySums", fn := fun _ => fun
  | [d1, d2] => { results := [.lit (.bool true)], args := [d1, d2] }
  | _ => none }
def paritySumsRow : OpenClaim := { program := "ythjodjfjeamilaa", sum := "fe176a3f72b52c94e10e06f81eb24450175883ddfd4d6c13f8da7083f3e46aef", func := "ravelin/ravelinlaw05.ParitySums", spec := "paritySums", apart := false }
def ParitySumsSaid : Prop := paritySumsRow.holds Try.pinned (OpenSpec.ofChange paritySumsSpec)

/-- ITS FALSE NEIGHBOUR: 'it returns false'. Refute it at one input. -/
def paritySumsWrong : ChangeSpec := { name := "paritySums", fn := fun _ => fun
  | [d1, d2] => { results := [.lit (.bool false)], args := [d1, d2] }
  | _ => none }
def ParitySumsWrongFalsely : Prop := paritySumsRow.holds Try.pinned (OpenSpec.ofChange paritySumsWrong)

/-- 'ravelinlaw05.ParityDeltas': WHATEVER THE INPUT: true; the input reads as it did. -/
def parityDeltasSpec : ChangeSpec := { name := "parityDeltas", fn := fun _ => fun
  | [d1, d2, d3, d4, d5] => { results := [.lit (.bool true)], args := [d1, d2, d3, d4, d5] }
  | _ => none }
def parityDeltasRow : OpenClaim := { program := "ythjodjfjeamilaa", sum := "fe176a3f72b52c94e10e06f81eb24450175883ddfd4d6c13f8da7083f3e46aef", func := "ravelin/ravelinlaw05.ParityDeltas", spec := "parityDeltas", apart := false }
def ParityDeltasSaid : Prop := parityDeltasRow.holds Try.pinned (OpenSpec.ofChange parityDeltasSpec)

/-- ITS FALSE NEIGHBOUR: 'it returns false'. Refute it at one input. -/
def parityDeltasWrong : ChangeSpec := { name := "parityDeltas", fn := fun _ => fun
  | [d1, d2, d3, d4, d5] => { results := [.lit (.bool false)], args := [d1, d2, d3, d4, d5] }
  | _ => none }
def ParityDeltasWrongFalsely : Prop := parityDeltasRow.holds Try.pinned (OpenSpec.ofChange parityDeltasWrong)

/-- 'ravelinlaw05.ParitySteps': WHATEVER THE INPUT: true; the input reads as it did. -/
def parityStepsSpec : ChangeSpec := { name := "paritySteps", fn := fun _ => fun
  | [d1, d2] => { results := [.lit (.bool true)], args := [d1, d2] }
  | _ => none }
def parityStepsRow : OpenClaim := { program := "ythjodjfjeamilaa", sum := "fe176a3f72b52c94e10e06f81eb24450175883ddfd4d6c13f8da7083f3e46aef", func := "ravelin/ravelinlaw05.ParitySteps", spec := "paritySteps", apart := false }
def ParityStepsSaid : Prop := parityStepsRow.holds Try.pinned (OpenSpec.ofChange parityStepsSpec)

/-- ITS FALSE NEIGHBOUR: 'it returns false'. Refute it at one input. -/
def parityStepsWrong : ChangeSpec := { name := "paritySteps", fn := fun _ => fun
  | [d1, d2] => { results := [.lit (.bool false)], args := [d1, d2] }
  | _ => none }
def ParityStepsWrongFalsely : Prop := parityStepsRow.holds Try.pinned (OpenSpec.ofChange parityStepsWrong)

/-- 'ravelinlaw05.ParityLocates': WHATEVER THE INPUT: true; the input reads as it did. -/
def parityLocatesSpec : ChangeSpec := { name := "parityLocates", fn := fun _ => fun
  | [d1, d2, d3, d4, d5] => { results := [.lit (.bool true)], args := [d1, d2, d3, d4, d5] }
  | _ => none }
def parityLocatesRow : OpenClaim := { program := "ythjodjfjeamilaa", sum := "fe176a3f72b52c94e10e06f81eb24450175883ddfd4d6c13f8da7083f3e46aef", func := "ravelin/ravelinlaw05.ParityLocates", spec := "parityLocates", apart := false }
def ParityLocatesSaid : Prop := parityLocatesRow.holds Try.pinned (OpenSpec.ofChange parityLocatesSpec)

/-- ITS FALSE NEIGHBOUR: 'it returns false'. Refute it at one input. -/
def parityLocatesWrong : ChangeSpec := { name := "parityLocates", fn := fun _ => fun
  | [d1, d2, d3, d4, d5] => { results := [.lit (.bool false)], args := [d1, d2, d3, d4, d5] }
  | _ => none }
def ParityLocatesWrongFalsely : Prop := parityLocatesRow.holds Try.pinned (OpenSpec.ofChange parityLocatesWrong)

/-- 'ravelinlaw05.ParityRecovers': WHATEVER THE INPUT: true; the input reads as it did. -/
def parityRecoversSpec : ChangeSpec := { name := "parityRecovers", fn := fun _ => fun
  | [d1, d2, d3] => { results := [.lit (.bool true)], args := [d1, d2, d3] }
  | _ => none }
def parityRecoversRow : OpenClaim := { program := "ythjodjfjeamilaa", sum := "fe176a3f72b52c94e10e06f81eb24450175883ddfd4d6c13f8da7083f3e46aef", func := "ravelin/ravelinlaw05.ParityRecovers", spec := "parityRecovers", apart := false }
def ParityRecoversSaid : Prop := parityRecoversRow.holds Try.pinned (OpenSpec.ofChange parityRecoversSpec)

/-- ITS FALSE NEIGHBOUR: 'it returns false'. Refute it at one input. -/
def parityRecoversWrong : ChangeSpec := { name := "parityRecovers", fn := fun _ => fun
  | [d1, d2, d3] => { results := [.lit (.bool false)], args := [d1, d2, d3] }
  | _ => none }
def ParityRecoversWrongFalsely : Prop := parityRecoversRow.holds Try.pinned (OpenSpec.ofChange parityRecoversWrong)

/-- 'ravelinlaw05.ParityTwo': WHATEVER THE INPUT: true; the input reads as it did. -/
def parityTwoSpec : ChangeSpec := { name := "parityTwo", fn := fun _ => fun
  | [d1, d2, d3] => { results := [.lit (.bool true)], args := [d1, d2, d3] }
  | _ => none }
def parityTwoRow : OpenClaim := { program := "ythjodjfjeamilaa", sum := "fe176a3f72b52c94e10e06f81eb24450175883ddfd4d6c13f8da7083f3e46aef", func := "ravelin/ravelinlaw05.ParityTwo", spec := "parityTwo", apart := false }
def ParityTwoSaid : Prop := parityTwoRow.holds Try.pinned (OpenSpec.ofChange parityTwoSpec)

/-- ITS FALSE NEIGHBOUR: 'it returns false'. Refute it at one input. -/
def parityTwoWrong : ChangeSpec := { name := "parityTwo", fn := fun _ => fun
  | [d1, d2, d3] => { results := [.lit (.bool false)], args := [d1, d2, d3] }
  | _ => none }
def ParityTwoWrongFalsely : Prop := parityTwoRow.holds Try.pinned (OpenSpec.ofChange parityTwoWrong)

/- THE SECOND FORM. 'bulk': how many values and letters a reading holds, each counted each time it is reached (what is shared counts as often as it is met; a slice's spare places count too). A statement '..UptoSaid' is the law's where the arguments, and the package variables that the reading takes, are together of bulk at most 1048576: NARROWER than '..Said'. Prove '..Said' where nothing that the law and all that it calls make is longer than what came in: it says more and counts as full. Else prove '..UptoSaid'. A law counts once. -/
mutual
def uptoBulk {H : Type} : DataW H → Nat
  | .lit (.string bytes) => bytes.length + 1
  | .lit _ => 1
  | .nil => 1
  | .ptr d => uptoBulk d + 1
  | .slice elems spare => uptoBulkAll elems + uptoBulkAll spare + 1
  | .agg parts => uptoBulkAll parts + 1
  | .iface _ d => uptoBulk d + 1
  | .map entries => uptoBulkEntries entries + 1
  | .held _ => 1
def uptoBulkAll {H : Type} : List (DataW H) → Nat
  | [] => 0
  | d :: r => uptoBulk d + uptoBulkAll r
def uptoBulkEntries {H : Type} : List (Lit × DataW H) → Nat
  | [] => 0
  | x :: r => uptoBulkEntry x + uptoBulkEntries r
def uptoBulkEntry {H : Type} : Lit × DataW H → Nat
  | (.string bytes, d) => bytes.length + uptoBulk d + 1
  | (_, d) => uptoBulk d + 1
 end
def uptoSmall : (H : Type) → List (DataW H) → Bool := fun _ ds => decide (uptoBulkAll ds ≤ 1048576)
def OpenSpec.upto (s : _root_.Go.ChangeSpec) : _root_.Go.OpenSpec := { _root_.Go.OpenSpec.ofChange s with cond := some uptoSmall }

/-- 'ravelinlaw05.ParityEncodes', WHERE WHAT IT READS IS OF BULK AT MOST 1048576: true; the input reads as it did. -/
def parityEncodesUptoRow : OpenClaim := { program := "ythjodjfjeamilaa", sum := "fe176a3f72b52c94e10e06f81eb24450175883ddfd4d6c13f8da7083f3e46aef", func := "ravelin/ravelinlaw05.ParityEncodes", spec := "parityEncodes", apart := false, narrowed := true }
def ParityEncodesUptoSaid : Prop := parityEncodesUptoRow.holds Try.pinned (OpenSpec.upto parityEncodesSpec)

/-- 'ravelinlaw05.ParitySums', WHERE WHAT IT READS IS OF BULK AT MOST 1048576: true; the input reads as it did. -/
def paritySumsUptoRow : OpenClaim := { program := "ythjodjfjeamilaa", sum := "fe176a3f72b52c94e10e06f81eb24450175883ddfd4d6c13f8da7083f3e46aef", func := "ravelin/ravelinlaw05.ParitySums", spec := "paritySums", apart := false, narrowed := true }
def ParitySumsUptoSaid : Prop := paritySumsUptoRow.holds Try.pinned (OpenSpec.upto paritySumsSpec)

/-- 'ravelinlaw05.ParityDeltas', WHERE WHAT IT READS IS OF BULK AT MOST 1048576: true; the input reads as it did. -/
def parityDeltasUptoRow : OpenClaim := { program := "ythjodjfjeamilaa", sum := "fe176a3f72b52c94e10e06f81eb24450175883ddfd4d6c13f8da7083f3e46aef", func := "ravelin/ravelinlaw05.ParityDeltas", spec := "parityDeltas", apart := false, narrowed := true }
def ParityDeltasUptoSaid : Prop := parityDeltasUptoRow.holds Try.pinned (OpenSpec.upto parityDeltasSpec)

/-- 'ravelinlaw05.ParitySteps', WHERE WHAT IT READS IS OF BULK AT MOST 1048576: true; the input reads as it did. -/
def parityStepsUptoRow : OpenClaim := { program := "ythjodjfjeamilaa", sum := "fe176a3f72b52c94e10e06f81eb24450175883ddfd4d6c13f8da7083f3e46aef", func := "ravelin/ravelinlaw05.ParitySteps", spec := "paritySteps", apart := false, narrowed := true }
def ParityStepsUptoSaid : Prop := parityStepsUptoRow.holds Try.pinned (OpenSpec.upto parityStepsSpec)

/-- 'ravelinlaw05.ParityLocates', WHERE WHAT IT READS IS OF BULK AT MOST 1048576: true; the input reads as it did. -/
def parityLocatesUptoRow : OpenClaim := { program := "ythjodjfjeamilaa", sum := "fe176a3f72b52c94e10e06f81eb24450175883ddfd4d6c13f8da7083f3e46aef", func := "ravelin/ravelinlaw05.ParityLocates", spec := "parityLocates", apart := false, narrowed := true }
def ParityLocatesUptoSaid : Prop := parityLocatesUptoRow.holds Try.pinned (OpenSpec.upto parityLocatesSpec)

/-- 'ravelinlaw05.ParityRecovers', WHERE WHAT IT READS IS OF BULK AT MOST 1048576: true; the input reads as it did. -/
def parityRecoversUptoRow : OpenClaim := { program := "ythjodjfjeamilaa", sum := "fe176a3f72b52c94e10e06f81eb24450175883ddfd4d6c13f8da7083f3e46aef", func := "ravelin/ravelinlaw05.ParityRecovers", spec := "parityRecovers", apart := false, narrowed := true }
def ParityRecoversUptoSaid : Prop := parityRecoversUptoRow.holds Try.pinned (OpenSpec.upto parityRecoversSpec)

/-- 'ravelinlaw05.ParityTwo', WHERE WHAT IT READS IS OF BULK AT MOST 1048576: true; the input reads as it did. -/
def parityTwoUptoRow : OpenClaim := { program := "ythjodjfjeamilaa", sum := "fe176a3f72b52c94e10e06f81eb24450175883ddfd4d6c13f8da7083f3e46aef", func := "ravelin/ravelinlaw05.ParityTwo", spec := "parityTwo", apart := false, narrowed := true }
def ParityTwoUptoSaid : Prop := parityTwoUptoRow.holds Try.pinned (OpenSpec.upto parityTwoSpec)

end Rows
end Go.Proofs.Ythjodjfjeamilaa
