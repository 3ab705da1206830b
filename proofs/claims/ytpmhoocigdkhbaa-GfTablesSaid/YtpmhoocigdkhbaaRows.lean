/-
  No cell of these rows narrows 'for every input' (looked for: loops, veiled, ifaces, maps, wideKeys, modest, calm, conditions, laid).
  DERIVED. THE GIVEN ROWS OF THIS SEAT. 7 by the template 'for every input the law returns true; each argument reads behind the call as it read before'; 0 by the template 'total and deterministic' (their statements: YtpmhoocigdkhbaaTotals.lean).
  GIVEN WITH THE SEED: the statements are not yours to turn. If you find one false, say at which input.
  Laid BY PROGRAM, IN A SANDBOX (cutbox-rows.mjs): the forced cells as the released guide's own fill.sh prints them over the translation 5e81e931c68d739f… (all of the seat's roots in one cut). By AI agents, Wed Nov 11 2026. No macro, syntax, notation, axiom, sorry.
-/
import Derived.Test.YtpmhoocigdkhbaaChecked
import GoSem.Claim
import GoSem.ClaimJoined
import GoSem.ClaimMapViews
import Derived.JoinedTies
import Derived.KernelRfl
namespace Go.Proofs.Ytpmhoocigdkhbaa
/- THE CELL 'sum', in the pinned program and in every row, IS THE sha256 OF THE DUMP (.gsa) THAT YtpmhoocigdkhbaaProg.lean LOADS. Nothing in Lean hashes anything: it is a label: what it is worth is what the hold of that sum in a sandbox is worth. -/
noncomputable def Try.pinned : Pinned := { name := "ytpmhoocigdkhbaa", sum := "5e81e931c68d739f5eeedd8385de3ba774b54540fdcf719f906347a6893c4fd8", checked := Try.checked }
namespace Rows
def none {H : Type} : Left H := { results := [], args := [] }

/-- 'ravelinlaw01.GfProducts': WHATEVER THE INPUT: true; the input reads as it did. -/
def gfProductsSpec : ChangeSpec := { name := "gfProducts", fn := fun _ => fun
  | [d1, d2] => { results := [.lit (.bool true)], args := [d1, d2] }
  | _ => none }
def gfProductsRow : OpenClaim := { program := "ytpmhoocigdkhbaa", sum := "5e81e931c68d739f5eeedd8385de3ba774b54540fdcf719f906347a6893c4fd8", func := "ravelin/ravelinlaw01.GfProducts", spec := "gfProducts", apart := false }
def GfProductsSaid : Prop := gfProductsRow.holds Try.pinned (OpenSpec.ofChange gfProductsSpec)

/-- ITS FALSE NEIGHBOUR: 'it returns false'. Refute it at one input. -/
def gfProductsWrong : ChangeSpec := { name := "gfProducts", fn := fun _ => fun
  | [d1, d2] => { results := [.lit (.bool false)], args := [d1, d2] }
  | _ => none }
def GfProductsWrongFalsely : Prop := gfProductsRow.holds Try.pinned (OpenSpec.ofChange gfProductsWrong)

/-- 'ravelinlaw01.GfSolves': WHATEVER THE INPUT: true; the input reads as it did. -/
def gfSolvesSpec : ChangeSpec := { name := "gfSolves", fn := fun _ => fun
  | [d1, d2, d3, d4, d5, d6] => { results := [.lit (.bool true)], args := [d1, d2, d3, d4, d5, d6] }
  | _ => none }
def gfSolvesRow : OpenClaim := { program := "ytpmhoocigdkhbaa", sum := "5e81e931c68d739f5eeedd8385de3ba774b54540fdcf719f906347a6893c4fd8", func := "ravelin/ravelinlaw01.GfSolves", spec := "gfSolves", apart := false }
def GfSolvesSaid : Prop := gfSolvesRow.holds Try.pinned (OpenSpec.ofChange gfSolvesSpec)

/-- ITS FALSE NEIGHBOUR: 'it returns false'. Refute it at one input. -/
def gfSolvesWrong : ChangeSpec := { name := "gfSolves", fn := fun _ => fun
  | [d1, d2, d3, d4, d5, d6] => { results := [.lit (.bool false)], args := [d1, d2, d3, d4, d5, d6] }
  | _ => none }
def GfSolvesWrongFalsely : Prop := gfSolvesRow.holds Try.pinned (OpenSpec.ofChange gfSolvesWrong)

/-- 'ravelinlaw01.GfCircle': WHATEVER THE INPUT: true; the input reads as it did. -/
def gfCircleSpec : ChangeSpec := { name := "gfCircle", fn := fun _ => fun
  | [d1, d2, d3] => { results := [.lit (.bool true)], args := [d1, d2, d3] }
  | _ => none }
def gfCircleRow : OpenClaim := { program := "ytpmhoocigdkhbaa", sum := "5e81e931c68d739f5eeedd8385de3ba774b54540fdcf719f906347a6893c4fd8", func := "ravelin/ravelinlaw01.GfCircle", spec := "gfCircle", apart := false }
def GfCircleSaid : Prop := gfCircleRow.holds Try.pinned (OpenSpec.ofChange gfCircleSpec)

/-- ITS FALSE NEIGHBOUR: 'it returns false'. Refute it at one input. -/
def gfCircleWrong : ChangeSpec := { name := "gfCircle", fn := fun _ => fun
  | [d1, d2, d3] => { results := [.lit (.bool false)], args := [d1, d2, d3] }
  | _ => none }
def GfCircleWrongFalsely : Prop := gfCircleRow.holds Try.pinned (OpenSpec.ofChange gfCircleWrong)

/-- 'ravelinlaw01.GfEquations': WHATEVER THE INPUT: true; the input reads as it did. -/
def gfEquationsSpec : ChangeSpec := { name := "gfEquations", fn := fun _ => fun
  | [d1, d2, d3, d4, d5, d6] => { results := [.lit (.bool true)], args := [d1, d2, d3, d4, d5, d6] }
  | _ => none }
def gfEquationsRow : OpenClaim := { program := "ytpmhoocigdkhbaa", sum := "5e81e931c68d739f5eeedd8385de3ba774b54540fdcf719f906347a6893c4fd8", func := "ravelin/ravelinlaw01.GfEquations", spec := "gfEquations", apart := false }
def GfEquationsSaid : Prop := gfEquationsRow.holds Try.pinned (OpenSpec.ofChange gfEquationsSpec)

/-- ITS FALSE NEIGHBOUR: 'it returns false'. Refute it at one input. -/
def gfEquationsWrong : ChangeSpec := { name := "gfEquations", fn := fun _ => fun
  | [d1, d2, d3, d4, d5, d6] => { results := [.lit (.bool false)], args := [d1, d2, d3, d4, d5, d6] }
  | _ => none }
def GfEquationsWrongFalsely : Prop := gfEquationsRow.holds Try.pinned (OpenSpec.ofChange gfEquationsWrong)

/-- 'ravelinlaw01.GfLaws': WHATEVER THE INPUT: true; the input reads as it did. -/
def gfLawsSpec : ChangeSpec := { name := "gfLaws", fn := fun _ => fun
  | [d1, d2, d3] => { results := [.lit (.bool true)], args := [d1, d2, d3] }
  | _ => none }
def gfLawsRow : OpenClaim := { program := "ytpmhoocigdkhbaa", sum := "5e81e931c68d739f5eeedd8385de3ba774b54540fdcf719f906347a6893c4fd8", func := "ravelin/ravelinlaw01.GfLaws", spec := "gfLaws", apart := false }
def GfLawsSaid : Prop := gfLawsRow.holds Try.pinned (OpenSpec.ofChange gfLawsSpec)

/-- ITS FALSE NEIGHBOUR: 'it returns false'. Refute it at one input. -/
def gfLawsWrong : ChangeSpec := { name := "gfLaws", fn := fun _ => fun
  | [d1, d2, d3] => { results := [.lit (.bool false)], args := [d1, d2, d3] }
  | _ => none }
def GfLawsWrongFalsely : Prop := gfLawsRow.holds Try.pinned (OpenSpec.ofChange gfLawsWrong)

/-- 'ravelinlaw01.GfPowers': WHATEVER THE INPUT: true; the input reads as it did. -/
def gfPowersSpec : ChangeSpec := { name := "gfPowers", fn := fun _ => fun
  | [d1, d2] => { results := [.lit (.bool true)], args := [d1, d2] }
  | _ => none }
def gfPowersRow : OpenClaim := { program := "ytpmhoocigdkhbaa", sum := "5e81e931c68d739f5eeedd8385de3ba774b54540fdcf719f906347a6893c4fd8", func := "ravelin/ravelinlaw01.GfPowers", spec := "gfPowers", apart := false }
def GfPowersSaid : Prop := gfPowersRow.holds Try.pinned (OpenSpec.ofChange gfPowersSpec)

/-- ITS FALSE NEIGHBOUR: 'it returns false'. Refute it at one input. -/
def gfPowersWrong : ChangeSpec := { name := "gfPowers", fn := fun _ => fun
  | [d1, d2] => { results := [.lit (.bool false)], args := [d1, d2] }
  | _ => none }
def GfPowersWrongFalsely : Prop := gfPowersRow.holds Try.pinned (OpenSpec.ofChange gfPowersWrong)

/-- 'ravelinlaw01.GfTables': WHATEVER THE INPUT: true; the input reads as it did. -/
def gfTablesSpec : ChangeSpec := { name := "gfTables", fn := fun _ => fun
  | [d] => { results := [.lit (.bool true)], args := [d] }
  | _ => none }
def gfTablesRow : OpenClaim := { program := "ytpmhoocigdkhbaa", sum := "5e81e931c68d739f5eeedd8385de3ba774b54540fdcf719f906347a6893c4fd8", func := "ravelin/ravelinlaw01.GfTables", spec := "gfTables", inPlace := ["sync/atomic.LoadInt64", "sync/atomic.AddInt64", "sync/atomic.LoadUint32", "(*internal/sync.Mutex).Lock", "internal/race.Disable", "sync/atomic.CompareAndSwapInt32", "internal/race.Enable", "internal/race.Acquire", "(*internal/sync.Mutex).lockSlow", "internal/sync.runtime_canSpin", "internal/sync.runtime_doSpin", "internal/sync.throw", "internal/sync.runtime_nanotime", "internal/sync.runtime_SemacquireMutex", "sync/atomic.AddInt32", "(*internal/sync.Mutex).Unlock", "internal/race.ReleaseMerge", "(*internal/sync.Mutex).unlockSlow", "internal/sync.fatal", "internal/sync.runtime_Semrelease", "sync/atomic.StoreUint32"], unfollowed := true, recurses := true, apart := false }
def GfTablesSaid : Prop := gfTablesRow.holds Try.pinned (OpenSpec.ofChange gfTablesSpec)

/-- ITS FALSE NEIGHBOUR: 'it returns false'. Refute it at one input. -/
def gfTablesWrong : ChangeSpec := { name := "gfTables", fn := fun _ => fun
  | [d] => { results := [.lit (.bool false)], args := [d] }
  | _ => none }
def GfTablesWrongFalsely : Prop := gfTablesRow.holds Try.pinned (OpenSpec.ofChange gfTablesWrong)

/- THE SECOND FORM. 'bulk': how many values and letters a reading holds, each counted each time it is reached (what is shared counts as often as it is met; a slice's spare places count too). A statement '..UptoSaid' is the law's where the arguments, and the package variables that the reading takes, are together of bulk at most 1048576: NARROWER than '..Said'. Prove '..Said' where nothing that the law and all that it calls make is longer than what came in: it says more and counts as full. Else prove '..UptoSaid'. A law counts once. -/
mutual
def uptoBulk {H : Type} : DataW H → Nat
  | .lit (.string bytes) => bytes.length + 1
  | .lit _ => 1
  | .nil => 1
  | .ptr d => uptoBulk d + 1
  | .slice elems spare => uptoBulkAll elems + uptoBulkAll spare + 1
  | .agg parts => uptoBulkAll parts + 1
  | .iface _ d => uptoBulk d + 1
  | .map entries => uptoBulkEntries entries + 1
  | .held _ => 1
def uptoBulkAll {H : Type} : List (DataW H) → Nat
  | [] => 0
  | d :: r => uptoBulk d + uptoBulkAll r
def uptoBulkEntries {H : Type} : List (Lit × DataW H) → Nat
  | [] => 0
  | x :: r => uptoBulkEntry x + uptoBulkEntries r
def uptoBulkEntry {H : Type} : Lit × DataW H → Nat
  | (.string bytes, d) => bytes.length + uptoBulk d + 1
  | (_, d) => uptoBulk d + 1
 end
def uptoSmall : (H : Type) → List (DataW H) → Bool := fun _ ds => decide (uptoBulkAll ds ≤ 1048576)
def OpenSpec.upto (s : _root_.Go.ChangeSpec) : _root_.Go.OpenSpec := { _root_.Go.OpenSpec.ofChange s with cond := some uptoSmall }

/-- 'ravelinlaw01.GfProducts', WHERE WHAT IT READS IS OF BULK AT MOST 1048576: true; the input reads as it did. -/
def gfProductsUptoRow : OpenClaim := { program := "ytpmhoocigdkhbaa", sum := "5e81e931c68d739f5eeedd8385de3ba774b54540fdcf719f906347a6893c4fd8", func := "ravelin/ravelinlaw01.GfProducts", spec := "gfProducts", apart := false, narrowed := true }
def GfProductsUptoSaid : Prop := gfProductsUptoRow.holds Try.pinned (OpenSpec.upto gfProductsSpec)

/-- 'ravelinlaw01.GfSolves', WHERE WHAT IT READS IS OF BULK AT MOST 1048576: true; the input reads as it did. -/
def gfSolvesUptoRow : OpenClaim := { program := "ytpmhoocigdkhbaa", sum := "5e81e931c68d739f5eeedd8385de3ba774b54540fdcf719f906347a6893c4fd8", func := "ravelin/ravelinlaw01.GfSolves", spec := "gfSolves", apart := false, narrowed := true }
def GfSolvesUptoSaid : Prop := gfSolvesUptoRow.holds Try.pinned (OpenSpec.upto gfSolvesSpec)

/-- 'ravelinlaw01.GfCircle', WHERE WHAT IT READS IS OF BULK AT MOST 1048576: true; the input reads as it did. -/
def gfCircleUptoRow : OpenClaim := { program := "ytpmhoocigdkhbaa", sum := "5e81e931c68d739f5eeedd8385de3ba774b54540fdcf719f906347a6893c4fd8", func := "ravelin/ravelinlaw01.GfCircle", spec := "gfCircle", apart := false, narrowed := true }
def GfCircleUptoSaid : Prop := gfCircleUptoRow.holds Try.pinned (OpenSpec.upto gfCircleSpec)

/-- 'ravelinlaw01.GfEquations', WHERE WHAT IT READS IS OF BULK AT MOST 1048576: true; the input reads as it did. -/
def gfEquationsUptoRow : OpenClaim := { program := "ytpmhoocigdkhbaa", sum := "5e81e931c68d739f5eeedd8385de3ba774b54540fdcf719f906347a6893c4fd8", func := "ravelin/ravelinlaw01.GfEquations", spec := "gfEquations", apart := false, narrowed := true }
def GfEquationsUptoSaid : Prop := gfEquationsUptoRow.holds Try.pinned (OpenSpec.upto gfEquationsSpec)

/-- 'ravelinlaw01.GfLaws', WHERE WHAT IT READS IS OF BULK AT MOST 1048576: true; the input reads as it did. -/
def gfLawsUptoRow : OpenClaim := { program := "ytpmhoocigdkhbaa", sum := "5e81e931c68d739f5eeedd8385de3ba774b54540fdcf719f906347a6893c4fd8", func := "ravelin/ravelinlaw01.GfLaws", spec := "gfLaws", apart := false, narrowed := true }
def GfLawsUptoSaid : Prop := gfLawsUptoRow.holds Try.pinned (OpenSpec.upto gfLawsSpec)

/-- 'ravelinlaw01.GfPowers', WHERE WHAT IT READS IS OF BULK AT MOST 1048576: true; the input reads as it did. -/
def gfPowersUptoRow : OpenClaim := { program := "ytpmhoocigdkhbaa", sum := "5e81e931c68d739f5eeedd8385de3ba774b54540fdcf719f906347a6893c4fd8", func := "ravelin/ravelinlaw01.GfPowers", spec := "gfPowers", apart := false, narrowed := true }
def GfPowersUptoSaid : Prop := gfPowersUptoRow.holds Try.pinned (OpenSpec.upto gfPowersSpec)

/-- 'ravelinlaw01.GfTables', WHERE WHAT IT READS IS OF BULK AT MOST 1048576: true; the input reads as it did. -/
def gfTablesUptoRow : OpenClaim := { program := "ytpmhoocigdkhbaa", sum := "5e81e931c68d739f5eeedd8385de3ba774b54540fdcf719f906347a6893c4fd8", func := "ravelin/ravelinlaw01.GfTables", spec := "gfTables", inPlace := ["sync/atomic.LoadInt64", "sync/atomic.AddInt64", "sync/atomic.LoadUint32", "(*internal/sync.Mutex).Lock", "internal/race.Disable", "sync/atomic.CompareAndSwapInt32", "internal/race.Enable", "internal/race.Acquire", "(*internal/sync.Mutex).lockSlow", "internal/sync.runtime_canSpin", "internal/sync.runtime_doSpin", "internal/sync.throw", "internal/sync.runtime_nanotime", "internal/sync.runtime_SemacquireMutex", "sync/atomic.AddInt32", "(*internal/sync.Mutex).Unlock", "internal/race.ReleaseMerge", "(*internal/sync.Mutex).unlockSlow", "internal/sync.fatal", "internal/sync.runtime_Semrelease", "sync/atomic.StoreUint32"], unfollowed := true, recurses := true, apart := false, narrowed := true }
def GfTablesUptoSaid : Prop := gfTablesUptoRow.holds Try.pinned (OpenSpec.upto gfTablesSpec)

end Rows
end Go.Proofs.Ytpmhoocigdkhbaa
