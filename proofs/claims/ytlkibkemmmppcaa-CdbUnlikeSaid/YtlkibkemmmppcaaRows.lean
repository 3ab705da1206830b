/-
  No cell of these rows narrows 'for every input' (looked for: loops, veiled, ifaces, maps, wideKeys, modest, calm, conditions, laid).
  DERIVED. THE GIVEN ROWS OF THIS SEAT. 5 by the template 'for every input the law returns true; each argument reads behind the call as it read before'; 0 by the template 'total and deterministic' (their statements: YtlkibkemmmppcaaTotals.lean).
  GIVEN WITH THE SEED: the statements are not yours to turn. If you find one false, say at which input.
  Laid BY PROGRAM, IN A SANDBOX (cutbox-rows.mjs): the forced cells as the released guide's own fill.sh prints them over the translation af11abd4a82402a9… (all of the seat's roots in one cut). By AI agents, Wed Nov 11 2026. No macro, syntax, notation, axiom, sorry.
-/
import Derived.Test.YtlkibkemmmppcaaChecked
import GoSem.Claim
import GoSem.ClaimJoined
import GoSem.ClaimMapViews
import Derived.JoinedTies
import Derived.KernelRfl
namespace Go.Proofs.Ytlkibkemmmppcaa
/- THE CELL 'sum', in the pinned program and in every row, IS THE sha256 OF THE DUMP (.gsa) THAT YtlkibkemmmppcaaProg.lean LOADS. Nothing in Lean hashes anything: it is a label: what it is worth is what the hold of that sum in a sandbox is worth. -/
noncomputable def Try.pinned : Pinned := { name := "ytlkibkemmmppcaa", sum := "af11abd4a82402a986178afa49fd63485abda2dbf010aba401458f7a41b381e3", checked := Try.checked }
namespace Rows
def none {H : Type} : Left H := { results := [], args := [] }

/-- 'ravelinlaw18.CdbEncodes': WHATEVER THE INPUT: true; the input reads as it did. -/
def cdbEncodesSpec : ChangeSpec := { name := "cdbEncodes", fn := fun _ => fun
  | [d] => { results := [.lit (.bool true)], args := [d] }
  | _ => none }
def cdbEncodesRow : OpenClaim := { program := "ytlkibkemmmppcaa", sum := "af11abd4a82402a986178afa49fd63485abda2dbf010aba401458f7a41b381e3", func := "ravelin/ravelinlaw18.CdbEncodes", spec := "cdbEncodes", unfollowed := true, recurses := true, apart := false }
def CdbEncodesSaid : Prop := cdbEncodesRow.holds Try.pinned (OpenSpec.ofChange cdbEncodesSpec)

/-- ITS FALSE NEIGHBOUR: 'it returns false'. Refute it at one input. -/
def cdbEncodesWrong : ChangeSpec := { name := "cdbEncodes", fn := fun _ => fun
  | [d] => { results := [.lit (.bool false)], args := [d] }
  | _ => none }
def CdbEncodesWrongFalsely : Prop := cdbEncodesRow.holds Try.pinned (OpenSpec.ofChange cdbEncodesWrong)

/-- 'ravelinlaw18.CdbDecodes': WHATEVER THE INPUT: true; the input reads as it did. -/
def cdbDecodesSpec : ChangeSpec := { name := "cdbDecodes", fn := fun _ => fun
  | [d] => { results := [.lit (.bool true)], args := [d] }
  | _ => none }
def cdbDecodesRow : OpenClaim := { program := "ytlkibkemmmppcaa", sum := "af11abd4a82402a986178afa49fd63485abda2dbf010aba401458f7a41b381e3", func := "ravelin/ravelinlaw18.CdbDecodes", spec := "cdbDecodes", unfollowed := true, recurses := true, apart := false }
def CdbDecodesSaid : Prop := cdbDecodesRow.holds Try.pinned (OpenSpec.ofChange cdbDecodesSpec)

/-- ITS FALSE NEIGHBOUR: 'it returns false'. Refute it at one input. -/
def cdbDecodesWrong : ChangeSpec := { name := "cdbDecodes", fn := fun _ => fun
  | [d] => { results := [.lit (.bool false)], args := [d] }
  | _ => none }
def CdbDecodesWrongFalsely : Prop := cdbDecodesRow.holds Try.pinned (OpenSpec.ofChange cdbDecodesWrong)

/-- 'ravelinlaw18.CdbUnlike': WHATEVER THE INPUT: true; the input reads as it did. -/
def cdbUnlikeSpec : ChangeSpec := { name := "cdbUnlike", fn := fun _ => fun
  | [d1, d2, d3, d4] => { results := [.lit (.bool true)], args := [d1, d2, d3, d4] }
  | _ => none }
def cdbUnlikeRow : OpenClaim := { program := "ytlkibkemmmppcaa", sum := "af11abd4a82402a986178afa49fd63485abda2dbf010aba401458f7a41b381e3", func := "ravelin/ravelinlaw18.CdbUnlike", spec := "cdbUnlike", unfollowed := true, recurses := true, apart := false }
def CdbUnlikeSaid : Prop := cdbUnlikeRow.holds Try.pinned (OpenSpec.ofChange cdbUnlikeSpec)

/-- ITS FALSE NEIGHBOUR: 'it returns false'. Refute it at one input. -/
def cdbUnlikeWrong : ChangeSpec := { name := "cdbUnlike", fn := fun _ => fun
  | [d1, d2, d3, d4] => { results := [.lit (.bool false)], args := [d1, d2, d3, d4] }
  | _ => none }
def CdbUnlikeWrongFalsely : Prop := cdbUnlikeRow.holds Try.pinned (OpenSpec.ofChange cdbUnlikeWrong)

/-- 'ravelinlaw18.CdbPlains': WHATEVER THE INPUT: true; the input reads as it did. -/
def cdbPlainsSpec : ChangeSpec := { name := "cdbPlains", fn := fun _ => fun
  | [d1, d2] => { results := [.lit (.bool true)], args := [d1, d2] }
  | _ => none }
def cdbPlainsRow : OpenClaim := { program := "ytlkibkemmmppcaa", sum := "af11abd4a82402a986178afa49fd63485abda2dbf010aba401458f7a41b381e3", func := "ravelin/ravelinlaw18.CdbPlains", spec := "cdbPlains", apart := false }
def CdbPlainsSaid : Prop := cdbPlainsRow.holds Try.pinned (OpenSpec.ofChange cdbPlainsSpec)

/-- ITS FALSE NEIGHBOUR: 'it returns false'. Refute it at one input. -/
def cdbPlainsWrong : ChangeSpec := { name := "cdbPlains", fn := fun _ => fun
  | [d1, d2] => { results := [.lit (.bool false)], args := [d1, d2] }
  | _ => none }
def CdbPlainsWrongFalsely : Prop := cdbPlainsRow.holds Try.pinned (OpenSpec.ofChange cdbPlainsWrong)

/-- 'ravelinlaw18.CdbRanges': WHATEVER THE INPUT: true; the input reads as it did. -/
def cdbRangesSpec : ChangeSpec := { name := "cdbRanges", fn := fun _ => fun
  | [d1, d2, d3, d4, d5] => { results := [.lit (.bool true)], args := [d1, d2, d3, d4, d5] }
  | _ => none }
def cdbRangesRow : OpenClaim := { program := "ytlkibkemmmppcaa", sum := "af11abd4a82402a986178afa49fd63485abda2dbf010aba401458f7a41b381e3", func := "ravelin/ravelinlaw18.CdbRanges", spec := "cdbRanges", apart := false }
def CdbRangesSaid : Prop := cdbRangesRow.holds Try.pinned (OpenSpec.ofChange cdbRangesSpec)

/-- ITS FALSE NEIGHBOUR: 'it returns false'. Refute it at one input. -/
def cdbRangesWrong : ChangeSpec := { name := "cdbRanges", fn := fun _ => fun
  | [d1, d2, d3, d4, d5] => { results := [.lit (.bool false)], args := [d1, d2, d3, d4, d5] }
  | _ => none }
def CdbRangesWrongFalsely : Prop := cdbRangesRow.holds Try.pinned (OpenSpec.ofChange cdbRangesWrong)

/- THE SECOND FORM. 'bulk': how many values and letters a reading holds, each counted each time it is reached (what is shared counts as often as it is met; a slice's spare places count too). A statement '..UptoSaid' is the law's where the arguments, and the package variables that the reading takes, are together of bulk at most 1048576: NARROWER than '..Said'. Prove '..Said' where nothing that the law and all that it calls make is longer than what came in: it says more and counts as full. Else prove '..UptoSaid'. A law counts once. -/
mutual
def uptoBulk {H : Type} : DataW H → Nat
  | .lit (.string bytes) => bytes.length + 1
  | .lit _ => 1
  | .nil => 1
  | .ptr d => uptoBulk d + 1
  | .slice elems spare => uptoBulkAll elems + uptoBulkAll spare + 1
  | .agg parts => uptoBulkAll parts + 1
  | .iface _ d => uptoBulk d + 1
  | .map entries => uptoBulkEntries entries + 1
  | .held _ => 1
def uptoBulkAll {H : Type} : List (DataW H) → Nat
  | [] => 0
  | d :: r => uptoBulk d + uptoBulkAll r
def uptoBulkEntries {H : Type} : List (Lit × DataW H) → Nat
  | [] => 0
  | x :: r => uptoBulkEntry x + uptoBulkEntries r
def uptoBulkEntry {H : Type} : Lit × DataW H → Nat
  | (.string bytes, d) => bytes.length + uptoBulk d + 1
  | (_, d) => uptoBulk d + 1
 end
def uptoSmall : (H : Type) → List (DataW H) → Bool := fun _ ds => decide (uptoBulkAll ds ≤ 1048576)
def OpenSpec.upto (s : _root_.Go.ChangeSpec) : _root_.Go.OpenSpec := { _root_.Go.OpenSpec.ofChange s with cond := some uptoSmall }

/-- 'ravelinlaw18.CdbEncodes', WHERE WHAT IT READS IS OF BULK AT MOST 1048576: true; the input reads as it did. -/
def cdbEncodesUptoRow : OpenClaim := { program := "ytlkibkemmmppcaa", sum := "af11abd4a82402a986178afa49fd63485abda2dbf010aba401458f7a41b381e3", func := "ravelin/ravelinlaw18.CdbEncodes", spec := "cdbEncodes", unfollowed := true, recurses := true, apart := false, narrowed := true }
def CdbEncodesUptoSaid : Prop := cdbEncodesUptoRow.holds Try.pinned (OpenSpec.upto cdbEncodesSpec)

/-- 'ravelinlaw18.CdbDecodes', WHERE WHAT IT READS IS OF BULK AT MOST 1048576: true; the input reads as it did. -/
def cdbDecodesUptoRow : OpenClaim := { program := "ytlkibkemmmppcaa", sum := "af11abd4a82402a986178afa49fd63485abda2dbf010aba401458f7a41b381e3", func := "ravelin/ravelinlaw18.CdbDecodes", spec := "cdbDecodes", unfollowed := true, recurses := true, apart := false, narrowed := true }
def CdbDecodesUptoSaid : Prop := cdbDecodesUptoRow.holds Try.pinned (OpenSpec.upto cdbDecodesSpec)

/-- 'ravelinlaw18.CdbUnlike', WHERE WHAT IT READS IS OF BULK AT MOST 1048576: true; the input reads as it did. -/
def cdbUnlikeUptoRow : OpenClaim := { program := "ytlkibkemmmppcaa", sum := "af11abd4a82402a986178afa49fd63485abda2dbf010aba401458f7a41b381e3", func := "ravelin/ravelinlaw18.CdbUnlike", spec := "cdbUnlike", unfollowed := true, recurses := true, apart := false, narrowed := true }
def CdbUnlikeUptoSaid : Prop := cdbUnlikeUptoRow.holds Try.pinned (OpenSpec.upto cdbUnlikeSpec)

/-- 'ravelinlaw18.CdbPlains', WHERE WHAT IT READS IS OF BULK AT MOST 1048576: true; the input reads as it did. -/
def cdbPlainsUptoRow : OpenClaim := { program := "ytlkibkemmmppcaa", sum := "af11abd4a82402a986178afa49fd63485abda2dbf010aba401458f7a41b381e3", func := "ravelin/ravelinlaw18.CdbPlains", spec := "cdbPlains", apart := false, narrowed := true }
def CdbPlainsUptoSaid : Prop := cdbPlainsUptoRow.holds Try.pinned (OpenSpec.upto cdbPlainsSpec)

/-- 'ravelinlaw18.CdbRanges', WHERE WHAT IT READS IS OF BULK AT MOST 1048576: true; the input reads as it did. -/
def cdbRangesUptoRow : OpenClaim := { program := "ytlkibkemmmppcaa", sum := "af11abd4a82402a986178afa49fd63485abda2dbf010aba401458f7a41b381e3", func := "ravelin/ravelinlaw18.CdbRanges", spec := "cdbRanges", apart := false, narrowed := true }
def CdbRangesUptoSaid : Prop := cdbRangesUptoRow.holds Try.pinned (OpenSpec.upto cdbRangesSpec)

end Rows
end Go.Proofs.Ytlkibkemmmppcaa
