/-
  No cell of these rows narrows 'for every input' (looked for: loops, veiled, ifaces, maps, wideKeys, modest, calm, conditions, laid).
  DERIVED. THE GIVEN ROWS OF THIS SEAT. 6 by the template 'for every input the law returns true; each argument reads behind the call as it read before'; 0 by the template 'total and deterministic' (their statements: YtgegkebbbpapiaaTotals.lean).
  GIVEN WITH THE SEED: the statements are not yours to turn. If you find one false, say at which input.
  Laid BY PROGRAM, IN A SANDBOX (cutbox-rows.mjs): the forced cells as the released guide's own fill.sh prints them over the translation c40833d2ac283704… (all of the seat's roots in one cut). By AI agents, Wed Nov 11 2026. No macro, syntax, notation, axiom, sorry.
-/
import Derived.Test.YtgegkebbbpapiaaChecked
import GoSem.Claim
import GoSem.ClaimJoined
import GoSem.ClaimMapViews
import Derived.JoinedTies
import Derived.KernelRfl
namespace Go.Proofs.Ytgegkebbbpapiaa
/- THE CELL 'sum', in the pinned program and in every row, IS THE sha256 OF THE DUMP (.gsa) THAT YtgegkebbbpapiaaProg.lean LOADS. Nothing in Lean hashes anything: it is a label: what it is worth is what the hold of that sum in a sandbox is worth. -/
noncomputable def Try.pinned : Pinned := { name := "ytgegkebbbpapiaa", sum := "c40833d2ac283704e51994180b2075ac853e1cf609dbc1d915822dd5769f2662", checked := Try.checked }
namespace Rows
def none {H : Type} : Left H := { results := [], args := [] }

/-- 'ravelinlaw14.DlmLeaves': WHATEVER THE INPUT: true; the input reads as it did. -/
def dlmLeavesSpec : ChangeSpec := { name := "dlmLeaves", fn := fun _ => fun
  | [d1, d2] => { results := [.lit (.bool true)], args := [d1, d2] }
  | _ => none }
def dlmLeavesRow : OpenClaim := { program := "ytgegkebbbpapiaa", sum := "c40833d2ac283704e51994180b2075ac853e1cf609dbc1d915822dd5769f2662", func := "ravelin/ravelinlaw14.DlmLeaves", spec := "dlmLeaves", apart := false }
def DlmLeavesSaid : Prop := dlmLeavesRow.holds Try.pinned (OpenSpec.ofChange dlmLeavesSpec)

/-- ITS FALSE NEIGHBOUR: 'it returns false'. Refute it at one input. -/
def dlmLeavesWrong : ChangeSpec := { name := "dlmLeaves", fn := fun _ => fun
  | [d1, d2] => { results := [.lit (.bool false)], args := [d1, d2] }
  | _ => none }
def DlmLeavesWrongFalsely : Prop := dlmLeavesRow.holds Try.pinned (OpenSpec.ofChange dlmLeavesWrong)

/-- 'ravelinlaw14.DlmApart': WHATEVER THE INPUT: true; the input reads as it did. -/
def dlmApartSpec : ChangeSpec := { name := "dlmApart", fn := fun _ => fun
  | [d1, d2] => { results := [.lit (.bool true)], args := [d1, d2] }
  | _ => none }
def dlmApartRow : OpenClaim := { program := "ytgegkebbbpapiaa", sum := "c40833d2ac283704e51994180b2075ac853e1cf609dbc1d915822dd5769f2662", func := "ravelin/ravelinlaw14.DlmApart", spec := "dlmApart", unfollowed := true, recurses := true, apart := false }
def DlmApartSaid : Prop := dlmApartRow.holds Try.pinned (OpenSpec.ofChange dlmApartSpec)

/-- ITS FALSE NEIGHBOUR: 'it returns false'. Refute it at one input. -/
def dlmApartWrong : ChangeSpec := { name := "dlmApart", fn := fun _ => fun
  | [d1, d2] => { results := [.lit (.bool false)], args := [d1, d2] }
  | _ => none }
def DlmApartWrongFalsely : Prop := dlmApartRow.holds Try.pinned (OpenSpec.ofChange dlmApartWrong)

/-- 'ravelinlaw14.DlmTurns': WHATEVER THE INPUT: true; the input reads as it did. -/
def dlmTurnsSpec : ChangeSpec := { name := "dlmTurns", fn := fun _ => fun
  | [d] => { results := [.lit (.bool true)], args := [d] }
  | _ => none }
def dlmTurnsRow : OpenClaim := { program := "ytgegkebbbpapiaa", sum := "c40833d2ac283704e51994180b2075ac853e1cf609dbc1d915822dd5769f2662", func := "ravelin/ravelinlaw14.DlmTurns", spec := "dlmTurns", unfollowed := true, recurses := true, apart := false }
def DlmTurnsSaid : Prop := dlmTurnsRow.holds Try.pinned (OpenSpec.ofChange dlmTurnsSpec)

/-- ITS FALSE NEIGHBOUR: 'it returns false'. Refute it at one input. -/
def dlmTurnsWrong : ChangeSpec := { name := "dlmTurns", fn := fun _ => fun
  | [d] => { results := [.lit (.bool false)], args := [d] }
  | _ => none }
def DlmTurnsWrongFalsely : Prop := dlmTurnsRow.holds Try.pinned (OpenSpec.ofChange dlmTurnsWrong)

/-- 'ravelinlaw14.DlmShared': WHATEVER THE INPUT: true; the input reads as it did. -/
def dlmSharedSpec : ChangeSpec := { name := "dlmShared", fn := fun _ => fun
  | [d1, d2] => { results := [.lit (.bool true)], args := [d1, d2] }
  | _ => none }
def dlmSharedRow : OpenClaim := { program := "ytgegkebbbpapiaa", sum := "c40833d2ac283704e51994180b2075ac853e1cf609dbc1d915822dd5769f2662", func := "ravelin/ravelinlaw14.DlmShared", spec := "dlmShared", unfollowed := true, recurses := true, apart := false }
def DlmSharedSaid : Prop := dlmSharedRow.holds Try.pinned (OpenSpec.ofChange dlmSharedSpec)

/-- ITS FALSE NEIGHBOUR: 'it returns false'. Refute it at one input. -/
def dlmSharedWrong : ChangeSpec := { name := "dlmShared", fn := fun _ => fun
  | [d1, d2] => { results := [.lit (.bool false)], args := [d1, d2] }
  | _ => none }
def DlmSharedWrongFalsely : Prop := dlmSharedRow.holds Try.pinned (OpenSpec.ofChange dlmSharedWrong)

/-- 'ravelinlaw14.DlmPlays': WHATEVER THE INPUT: true; the input reads as it did. -/
def dlmPlaysSpec : ChangeSpec := { name := "dlmPlays", fn := fun _ => fun
  | [d] => { results := [.lit (.bool true)], args := [d] }
  | _ => none }
def dlmPlaysRow : OpenClaim := { program := "ytgegkebbbpapiaa", sum := "c40833d2ac283704e51994180b2075ac853e1cf609dbc1d915822dd5769f2662", func := "ravelin/ravelinlaw14.DlmPlays", spec := "dlmPlays", unfollowed := true, recurses := true, apart := false }
def DlmPlaysSaid : Prop := dlmPlaysRow.holds Try.pinned (OpenSpec.ofChange dlmPlaysSpec)

/-- ITS FALSE NEIGHBOUR: 'it returns false'. Refute it at one input. -/
def dlmPlaysWrong : ChangeSpec := { name := "dlmPlays", fn := fun _ => fun
  | [d] => { results := [.lit (.bool false)], args := [d] }
  | _ => none }
def DlmPlaysWrongFalsely : Prop := dlmPlaysRow.holds Try.pinned (OpenSpec.ofChange dlmPlaysWrong)

/-- 'ravelinlaw14.DlmNil': WHATEVER THE INPUT: true; the input reads as it did. -/
def dlmNilSpec : ChangeSpec := { name := "dlmNil", fn := fun _ => fun
  | [d1, d2, d3, d4] => { results := [.lit (.bool true)], args := [d1, d2, d3, d4] }
  | _ => none }
def dlmNilRow : OpenClaim := { program := "ytgegkebbbpapiaa", sum := "c40833d2ac283704e51994180b2075ac853e1cf609dbc1d915822dd5769f2662", func := "ravelin/ravelinlaw14.DlmNil", spec := "dlmNil", unfollowed := true, recurses := true, apart := false }
def DlmNilSaid : Prop := dlmNilRow.holds Try.pinned (OpenSpec.ofChange dlmNilSpec)

/-- ITS FALSE NEIGHBOUR: 'it returns false'. Refute it at one input. -/
def dlmNilWrong : ChangeSpec := { name := "dlmNil", fn := fun _ => fun
  | [d1, d2, d3, d4] => { results := [.lit (.bool false)], args := [d1, d2, d3, d4] }
  | _ => none }
def DlmNilWrongFalsely : Prop := dlmNilRow.holds Try.pinned (OpenSpec.ofChange dlmNilWrong)

/- THE SECOND FORM. 'bulk': how many values and letters a reading holds, each counted each time it is reached (what is shared counts as often as it is met; a slice's spare places count too). A statement '..UptoSaid' is the law's where the arguments, and the package variables that the reading takes, are together of bulk at most 1048576: NARROWER than '..Said'. Prove '..Said' where nothing that the law and all that it calls make is longer than what came in: it says more and counts as full. Else prove '..UptoSaid'. A law counts once. -/
mutual
def uptoBulk {H : Type} : DataW H → Nat
  | .lit (.string bytes) => bytes.length + 1
  | .lit _ => 1
  | .nil => 1
  | .ptr d => uptoBulk d + 1
  | .slice elems spare => uptoBulkAll elems + uptoBulkAll spare + 1
  | .agg parts => uptoBulkAll parts + 1
  | .iface _ d => uptoBulk d + 1
  | .map entries => uptoBulkEntries entries + 1
  | .held _ => 1
def uptoBulkAll {H : Type} : List (DataW H) → Nat
  | [] => 0
  | d :: r => uptoBulk d + uptoBulkAll r
def uptoBulkEntries {H : Type} : List (Lit × DataW H) → Nat
  | [] => 0
  | x :: r => uptoBulkEntry x + uptoBulkEntries r
def uptoBulkEntry {H : Type} : Lit × DataW H → Nat
  | (.string bytes, d) => bytes.length + uptoBulk d + 1
  | (_, d) => uptoBulk d + 1
 end
def uptoSmall : (H : Type) → List (DataW H) → Bool := fun _ ds => decide (uptoBulkAll ds ≤ 1048576)
def OpenSpec.upto (s : _root_.Go.ChangeSpec) : _root_.Go.OpenSpec := { _root_.Go.OpenSpec.ofChange s with cond := some uptoSmall }

/-- 'ravelinlaw14.DlmLeaves', WHERE WHAT IT READS IS OF BULK AT MOST 1048576: true; the input reads as it did. -/
def dlmLeavesUptoRow : OpenClaim := { program := "ytgegkebbbpapiaa", sum := "c40833d2ac283704e51994180b2075ac853e1cf609dbc1d915822dd5769f2662", func := "ravelin/ravelinlaw14.DlmLeaves", spec := "dlmLeaves", apart := false, narrowed := true }
def DlmLeavesUptoSaid : Prop := dlmLeavesUptoRow.holds Try.pinned (OpenSpec.upto dlmLeavesSpec)

/-- 'ravelinlaw14.DlmApart', WHERE WHAT IT READS IS OF BULK AT MOST 1048576: true; the input reads as it did. -/
def dlmApartUptoRow : OpenClaim := { program := "ytgegkebbbpapiaa", sum := "c40833d2ac283704e51994180b2075ac853e1cf609dbc1d915822dd5769f2662", func := "ravelin/ravelinlaw14.DlmApart", spec := "dlmApart", unfollowed := true, recurses := true, apart := false, narrowed := true }
def DlmApartUptoSaid : Prop := dlmApartUptoRow.holds Try.pinned (OpenSpec.upto dlmApartSpec)

/-- 'ravelinlaw14.DlmTurns', WHERE WHAT IT READS IS OF BULK AT MOST 1048576: true; the input reads as it did. -/
def dlmTurnsUptoRow : OpenClaim := { program := "ytgegkebbbpapiaa", sum := "c40833d2ac283704e51994180b2075ac853e1cf609dbc1d915822dd5769f2662", func := "ravelin/ravelinlaw14.DlmTurns", spec := "dlmTurns", unfollowed := true, recurses := true, apart := false, narrowed := true }
def DlmTurnsUptoSaid : Prop := dlmTurnsUptoRow.holds Try.pinned (OpenSpec.upto dlmTurnsSpec)

/-- 'ravelinlaw14.DlmShared', WHERE WHAT IT READS IS OF BULK AT MOST 1048576: true; the input reads as it did. -/
def dlmSharedUptoRow : OpenClaim := { program := "ytgegkebbbpapiaa", sum := "c40833d2ac283704e51994180b2075ac853e1cf609dbc1d915822dd5769f2662", func := "ravelin/ravelinlaw14.DlmShared", spec := "dlmShared", unfollowed := true, recurses := true, apart := false, narrowed := true }
def DlmSharedUptoSaid : Prop := dlmSharedUptoRow.holds Try.pinned (OpenSpec.upto dlmSharedSpec)

/-- 'ravelinlaw14.DlmPlays', WHERE WHAT IT READS IS OF BULK AT MOST 1048576: true; the input reads as it did. -/
def dlmPlaysUptoRow : OpenClaim := { program := "ytgegkebbbpapiaa", sum := "c40833d2ac283704e51994180b2075ac853e1cf609dbc1d915822dd5769f2662", func := "ravelin/ravelinlaw14.DlmPlays", spec := "dlmPlays", unfollowed := true, recurses := true, apart := false, narrowed := true }
def DlmPlaysUptoSaid : Prop := dlmPlaysUptoRow.holds Try.pinned (OpenSpec.upto dlmPlaysSpec)

/-- 'ravelinlaw14.DlmNil', WHERE WHAT IT READS IS OF BULK AT MOST 1048576: true; the input reads as it did. -/
def dlmNilUptoRow : OpenClaim := { program := "ytgegkebbbpapiaa", sum := "c40833d2ac283704e51994180b2075ac853e1cf609dbc1d915822dd5769f2662", func := "ravelin/ravelinlaw14.DlmNil", spec := "dlmNil", unfollowed := true, recurses := true, apart := false, narrowed := true }
def DlmNilUptoSaid : Prop := dlmNilUptoRow.holds Try.pinned (OpenSpec.upto dlmNilSpec)

end Rows
end Go.Proofs.Ytgegkebbbpapiaa
