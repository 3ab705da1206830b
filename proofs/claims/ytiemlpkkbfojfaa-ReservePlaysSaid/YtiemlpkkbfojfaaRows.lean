/-
  No cell of these rows narrows 'for every input' (looked for: loops, veiled, ifaces, maps, wideKeys, modest, calm, conditions, laid).
  DERIVED. THE GIVEN ROWS OF THIS SEAT. 6 by the template 'for every input the law returns true; each argument reads behind the call as it read before'; 0 by the template 'total and deterministic' (their statements: YtiemlpkkbfojfaaTotals.lean).
  GIVEN WITH THE SEED: the statements are not yours to turn. If you find one false, say at which input.
  Laid BY PROGRAM, IN A SANDBOX (cutbox-rows.mjs): the forced cells as the released guide's own fill.sh prints them over the translation 3eee3ac563c3faa4… (all of the seat's roots in one cut). By AI agents, Wed Nov 11 2026. No macro, syntax, notation, axiom, sorry.
-/
import Derived.Test.YtiemlpkkbfojfaaChecked
import GoSem.Claim
import GoSem.ClaimJoined
import GoSem.ClaimMapViews
import Derived.JoinedTies
import Derived.KernelRfl
namespace Go.Proofs.Ytiemlpkkbfojfaa
/- THE CELL 'sum', in the pinned program and in every row, IS THE sha256 OF THE DUMP (.gsa) THAT YtiemlpkkbfojfaaProg.lean LOADS. Nothing in Lean hashes anything: it is a label: what it is worth is what the hold of that sum in a sandbox is worth. -/
noncomputable def Try.pinned : Pinned := { name := "ytiemlpkkbfojfaa", sum := "3eee3ac563c3faa420640c0954ad4c05c00aa9a0c43ecffa8287e539d55186f2", checked := Try.checked }
namespace Rows
def none {H : Type} : Left H := { results := [], args := [] }

/-- 'ravelinlaw17.ReserveKinds': WHATEVER THE INPUT: true; the input reads as it did. -/
def reserveKindsSpec : ChangeSpec := { name := "reserveKinds", fn := fun _ => fun
  | [d1, d2, d3, d4, d5] => { results := [.lit (.bool true)], args := [d1, d2, d3, d4, d5] }
  | _ => none }
def reserveKindsRow : OpenClaim := { program := "ytiemlpkkbfojfaa", sum := "3eee3ac563c3faa420640c0954ad4c05c00aa9a0c43ecffa8287e539d55186f2", func := "ravelin/ravelinlaw17.ReserveKinds", spec := "reserveKinds", apart := false }
def ReserveKindsSaid : Prop := reserveKindsRow.holds Try.pinned (OpenSpec.ofChange reserveKindsSpec)

/-- ITS FALSE NEIGHBOUR: 'it returns false'. Refute it at one input. -/
def reserveKindsWrong : ChangeSpec := { name := "reserveKinds", fn := fun _ => fun
  | [d1, d2, d3, d4, d5] => { results := [.lit (.bool false)], args := [d1, d2, d3, d4, d5] }
  | _ => none }
def ReserveKindsWrongFalsely : Prop := reserveKindsRow.holds Try.pinned (OpenSpec.ofChange reserveKindsWrong)

/-- 'ravelinlaw17.ReservePreempts': WHATEVER THE INPUT: true; the input reads as it did. -/
def reservePreemptsSpec : ChangeSpec := { name := "reservePreempts", fn := fun _ => fun
  | [d1, d2, d3, d4] => { results := [.lit (.bool true)], args := [d1, d2, d3, d4] }
  | _ => none }
def reservePreemptsRow : OpenClaim := { program := "ytiemlpkkbfojfaa", sum := "3eee3ac563c3faa420640c0954ad4c05c00aa9a0c43ecffa8287e539d55186f2", func := "ravelin/ravelinlaw17.ReservePreempts", spec := "reservePreempts", apart := false }
def ReservePreemptsSaid : Prop := reservePreemptsRow.holds Try.pinned (OpenSpec.ofChange reservePreemptsSpec)

/-- ITS FALSE NEIGHBOUR: 'it returns false'. Refute it at one input. -/
def reservePreemptsWrong : ChangeSpec := { name := "reservePreempts", fn := fun _ => fun
  | [d1, d2, d3, d4] => { results := [.lit (.bool false)], args := [d1, d2, d3, d4] }
  | _ => none }
def ReservePreemptsWrongFalsely : Prop := reservePreemptsRow.holds Try.pinned (OpenSpec.ofChange reservePreemptsWrong)

/-- 'ravelinlaw17.ReservePlays': WHATEVER THE INPUT: true; the input reads as it did. -/
def reservePlaysSpec : ChangeSpec := { name := "reservePlays", fn := fun _ => fun
  | [d] => { results := [.lit (.bool true)], args := [d] }
  | _ => none }
def reservePlaysRow : OpenClaim := { program := "ytiemlpkkbfojfaa", sum := "3eee3ac563c3faa420640c0954ad4c05c00aa9a0c43ecffa8287e539d55186f2", func := "ravelin/ravelinlaw17.ReservePlays", spec := "reservePlays", apart := false }
def ReservePlaysSaid : Prop := reservePlaysRow.holds Try.pinned (OpenSpec.ofChange reservePlaysSpec)

/-- ITS FALSE NEIGHBOUR: 'it returns false'. Refute it at one input. -/
def reservePlaysWrong : ChangeSpec := { name := "reservePlays", fn := fun _ => fun
  | [d] => { results := [.lit (.bool false)], args := [d] }
  | _ => none }
def ReservePlaysWrongFalsely : Prop := reservePlaysRow.holds Try.pinned (OpenSpec.ofChange reservePlaysWrong)

/-- 'ravelinlaw17.ReserveHolds': WHATEVER THE INPUT: true; the input reads as it did. -/
def reserveHoldsSpec : ChangeSpec := { name := "reserveHolds", fn := fun _ => fun
  | [d] => { results := [.lit (.bool true)], args := [d] }
  | _ => none }
def reserveHoldsRow : OpenClaim := { program := "ytiemlpkkbfojfaa", sum := "3eee3ac563c3faa420640c0954ad4c05c00aa9a0c43ecffa8287e539d55186f2", func := "ravelin/ravelinlaw17.ReserveHolds", spec := "reserveHolds", apart := false }
def ReserveHoldsSaid : Prop := reserveHoldsRow.holds Try.pinned (OpenSpec.ofChange reserveHoldsSpec)

/-- ITS FALSE NEIGHBOUR: 'it returns false'. Refute it at one input. -/
def reserveHoldsWrong : ChangeSpec := { name := "reserveHolds", fn := fun _ => fun
  | [d] => { results := [.lit (.bool false)], args := [d] }
  | _ => none }
def ReserveHoldsWrongFalsely : Prop := reserveHoldsRow.holds Try.pinned (OpenSpec.ofChange reserveHoldsWrong)

/-- 'ravelinlaw17.ReserveKeeps': WHATEVER THE INPUT: true; the input reads as it did. -/
def reserveKeepsSpec : ChangeSpec := { name := "reserveKeeps", fn := fun _ => fun
  | [d1, d2, d3, d4] => { results := [.lit (.bool true)], args := [d1, d2, d3, d4] }
  | _ => none }
def reserveKeepsRow : OpenClaim := { program := "ytiemlpkkbfojfaa", sum := "3eee3ac563c3faa420640c0954ad4c05c00aa9a0c43ecffa8287e539d55186f2", func := "ravelin/ravelinlaw17.ReserveKeeps", spec := "reserveKeeps", apart := false }
def ReserveKeepsSaid : Prop := reserveKeepsRow.holds Try.pinned (OpenSpec.ofChange reserveKeepsSpec)

/-- ITS FALSE NEIGHBOUR: 'it returns false'. Refute it at one input. -/
def reserveKeepsWrong : ChangeSpec := { name := "reserveKeeps", fn := fun _ => fun
  | [d1, d2, d3, d4] => { results := [.lit (.bool false)], args := [d1, d2, d3, d4] }
  | _ => none }
def ReserveKeepsWrongFalsely : Prop := reserveKeepsRow.holds Try.pinned (OpenSpec.ofChange reserveKeepsWrong)

/-- 'ravelinlaw17.ReserveNil': WHATEVER THE INPUT: true; the input reads as it did. -/
def reserveNilSpec : ChangeSpec := { name := "reserveNil", fn := fun _ => fun
  | [d1, d2, d3, d4] => { results := [.lit (.bool true)], args := [d1, d2, d3, d4] }
  | _ => none }
def reserveNilRow : OpenClaim := { program := "ytiemlpkkbfojfaa", sum := "3eee3ac563c3faa420640c0954ad4c05c00aa9a0c43ecffa8287e539d55186f2", func := "ravelin/ravelinlaw17.ReserveNil", spec := "reserveNil", apart := false }
def ReserveNilSaid : Prop := reserveNilRow.holds Try.pinned (OpenSpec.ofChange reserveNilSpec)

/-- ITS FALSE NEIGHBOUR: 'it returns false'. Refute it at one input. -/
def reserveNilWrong : ChangeSpec := { name := "reserveNil", fn := fun _ => fun
  | [d1, d2, d3, d4] => { results := [.lit (.bool false)], args := [d1, d2, d3, d4] }
  | _ => none }
def ReserveNilWrongFalsely : Prop := reserveNilRow.holds Try.pinned (OpenSpec.ofChange reserveNilWrong)

/- THE SECOND FORM. 'bulk': how many values and letters a reading holds, each counted each time it is reached (what is shared counts as often as it is met; a slice's spare places count too). A statement '..UptoSaid' is the law's where the arguments, and the package variables that the reading takes, are together of bulk at most 1048576: NARROWER than '..Said'. Prove '..Said' where nothing that the law and all that it calls make is longer than what came in: it says more and counts as full. Else prove '..UptoSaid'. A law counts once. -/
mutual
def uptoBulk {H : Type} : DataW H → Nat
  | .lit (.string bytes) => bytes.length + 1
  | .lit _ => 1
  | .nil => 1
  | .ptr d => uptoBulk d + 1
  | .slice elems spare => uptoBulkAll elems + uptoBulkAll spare + 1
  | .agg parts => uptoBulkAll parts + 1
  | .iface _ d => uptoBulk d + 1
  | .map entries => uptoBulkEntries entries + 1
  | .held _ => 1
def uptoBulkAll {H : Type} : List (DataW H) → Nat
  | [] => 0
  | d :: r => uptoBulk d + uptoBulkAll r
def uptoBulkEntries {H : Type} : List (Lit × DataW H) → Nat
  | [] => 0
  | x :: r => uptoBulkEntry x + uptoBulkEntries r
def uptoBulkEntry {H : Type} : Lit × DataW H → Nat
  | (.string bytes, d) => bytes.length + uptoBulk d + 1
  | (_, d) => uptoBulk d + 1
 end
def uptoSmall : (H : Type) → List (DataW H) → Bool := fun _ ds => decide (uptoBulkAll ds ≤ 1048576)
def OpenSpec.upto (s : _root_.Go.ChangeSpec) : _root_.Go.OpenSpec := { _root_.Go.OpenSpec.ofChange s with cond := some uptoSmall }

/-- 'ravelinlaw17.ReserveKinds', WHERE WHAT IT READS IS OF BULK AT MOST 1048576: true; the input reads as it did. -/
def reserveKindsUptoRow : OpenClaim := { program := "ytiemlpkkbfojfaa", sum := "3eee3ac563c3faa420640c0954ad4c05c00aa9a0c43ecffa8287e539d55186f2", func := "ravelin/ravelinlaw17.ReserveKinds", spec := "reserveKinds", apart := false, narrowed := true }
def ReserveKindsUptoSaid : Prop := reserveKindsUptoRow.holds Try.pinned (OpenSpec.upto reserveKindsSpec)

/-- 'ravelinlaw17.ReservePreempts', WHERE WHAT IT READS IS OF BULK AT MOST 1048576: true; the input reads as it did. -/
def reservePreemptsUptoRow : OpenClaim := { program := "ytiemlpkkbfojfaa", sum := "3eee3ac563c3faa420640c0954ad4c05c00aa9a0c43ecffa8287e539d55186f2", func := "ravelin/ravelinlaw17.ReservePreempts", spec := "reservePreempts", apart := false, narrowed := true }
def ReservePreemptsUptoSaid : Prop := reservePreemptsUptoRow.holds Try.pinned (OpenSpec.upto reservePreemptsSpec)

/-- 'ravelinlaw17.ReservePlays', WHERE WHAT IT READS IS OF BULK AT MOST 1048576: true; the input reads as it did. -/
def reservePlaysUptoRow : OpenClaim := { program := "ytiemlpkkbfojfaa", sum := "3eee3ac563c3faa420640c0954ad4c05c00aa9a0c43ecffa8287e539d55186f2", func := "ravelin/ravelinlaw17.ReservePlays", spec := "reservePlays", apart := false, narrowed := true }
def ReservePlaysUptoSaid : Prop := reservePlaysUptoRow.holds Try.pinned (OpenSpec.upto reservePlaysSpec)

/-- 'ravelinlaw17.ReserveHolds', WHERE WHAT IT READS IS OF BULK AT MOST 1048576: true; the input reads as it did. -/
def reserveHoldsUptoRow : OpenClaim := { program := "ytiemlpkkbfojfaa", sum := "3eee3ac563c3faa420640c0954ad4c05c00aa9a0c43ecffa8287e539d55186f2", func := "ravelin/ravelinlaw17.ReserveHolds", spec := "reserveHolds", apart := false, narrowed := true }
def ReserveHoldsUptoSaid : Prop := reserveHoldsUptoRow.holds Try.pinned (OpenSpec.upto reserveHoldsSpec)

/-- 'ravelinlaw17.ReserveKeeps', WHERE WHAT IT READS IS OF BULK AT MOST 1048576: true; the input reads as it did. -/
def reserveKeepsUptoRow : OpenClaim := { program := "ytiemlpkkbfojfaa", sum := "3eee3ac563c3faa420640c0954ad4c05c00aa9a0c43ecffa8287e539d55186f2", func := "ravelin/ravelinlaw17.ReserveKeeps", spec := "reserveKeeps", apart := false, narrowed := true }
def ReserveKeepsUptoSaid : Prop := reserveKeepsUptoRow.holds Try.pinned (OpenSpec.upto reserveKeepsSpec)

/-- 'ravelinlaw17.ReserveNil', WHERE WHAT IT READS IS OF BULK AT MOST 1048576: true; the input reads as it did. -/
def reserveNilUptoRow : OpenClaim := { program := "ytiemlpkkbfojfaa", sum := "3eee3ac563c3faa420640c0954ad4c05c00aa9a0c43ecffa8287e539d55186f2", func := "ravelin/ravelinlaw17.ReserveNil", spec := "reserveNil", apart := false, narrowed := true }
def ReserveNilUptoSaid : Prop := reserveNilUptoRow.holds Try.pinned (OpenSpec.upto reserveNilSpec)

end Rows
end Go.Proofs.Ytiemlpkkbfojfaa
