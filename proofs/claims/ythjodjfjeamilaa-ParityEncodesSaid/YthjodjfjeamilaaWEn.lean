/- ParityEncodes, walked. -/
import Derived.Test.YthjodjfjeamilaaPurE
import Derived.Test.YthjodjfjeamilaaOpn
set_option linter.unusedVariables false
namespace Go.Proofs.Ythjodjfjeamilaa.Pur
open Go Go.RowKit Go.Proofs.YthjodjfjeamilaaW.PrintWords Go.Proofs.YthjodjfjeamilaaW.PrintLast Go.Proofs.YthjodjfjeamilaaW.PrintMore Go.Proofs.Ythjodjfjeamilaa.PA Go.Proofs.Ythjodjfjeamilaa.PB
theorem encodes_walk (A : Option Addr) (cap : Nat) (cs : List (List Nat)) (w : World) (hr : Kd.C (Kd.slice 5 (Kd.int .u8)) w A (II cs).length (II cs)) (hcap : (II cs).length ≤ cap) (hc : Bytt cs) (hn : cs.length * 24 ≤ 140737488351232) (hl : ∀ c ∈ cs, c.length ≤ 140737488351232) :
    Calls Try.prog 3 #[.slice A (II cs).length cap] w fun e w' => e = .returned (.bool true) ∧ Below w.heap.size w w' := by
  obtain ⟨k, hk⟩ := (encodes_true cs hc hn hl).rounds
  exact ravelinlaw05_ParityEncodes.calls k A cap (II cs) true w hr hcap hk
end Go.Proofs.Ythjodjfjeamilaa.Pur
