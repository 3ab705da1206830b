/- awake: a fixed fact. -/
import Derived.Test.YtlkibkemmmppcaaEnc
namespace Go.Proofs.Ytlkibkemmmppcaa.Wd
open Go.RowKit
set_option linter.unusedVariables false
set_option linter.unusedSimpArgs false
def c0 : Cmd := ⟨2, 5, 2, 0, [], 0, 0, false⟩
def b0 : List Int := [2, 0, 0, 0, 0, 0, 0, 5, 0, 2, 0, 0, 0, 0, 0, 0, 0, 0, 0, 0]
theorem c0_bytes : c0.plain.bytes = b0 := by decide
set_option maxRecDepth 100000 in
theorem awake_any (w : World) : Calls Try.prog 11 #[] w fun e w' => e = .returned (.bool true) ∧ Below w.heap.size w w' := by
  have E := enc_ok c0 (.slice none 0 0) w (Rd.nil w 16) (by decide) (by decide)
  rw [c0_bytes] at E
  have E : Calls Try.prog 8 #[.agg #[.int .i64 2, .int .i64 5, .int .i64 2, .slice none 0 0, .int .u64 0, .int .i64 0, .bool false]] w fun e w' => ∃ v, e = .returned (.tuple #[v, .int .i64 0]) ∧ w'.ownsRow w.heap.size 5 1 v 20 (u8s b0) ∧ Below w.heap.size w w' := E
  have HE := Lib.hid E
  clear E
  go_enter Try.func11, Try.ntmps11
  go_wp2_with (fail)
  refine HE.out.mono ?_
  rintro e w1 ⟨v, rfl, ho, hb⟩
  obtain ⟨A, cap, rfl, hc1, hc2⟩ := own_form ho
  obtain ⟨r, rfl, hr1, hr2⟩ := own_addr ho (by omega)
  have d0 : w1.cell? ⟨r, 0, none⟩ = some (.int .u8 2) := own_cell ho (by omega)
  have d7 : w1.cell? ⟨r, 7, none⟩ = some (.int .u8 5) := own_cell ho (by omega)
  have d9 : w1.cell? ⟨r, 9, none⟩ = some (.int .u8 2) := own_cell ho (by omega)
  have HB := Lib.hid hb
  clear ho hb
  go_wp2_with (fail)
  go_ret
  exact ⟨rfl, HB.out⟩
end Go.Proofs.Ytlkibkemmmppcaa.Wd
