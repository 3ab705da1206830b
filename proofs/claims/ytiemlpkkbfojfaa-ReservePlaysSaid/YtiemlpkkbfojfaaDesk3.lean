/- The walks of reserve's calls on a nil desk, of awake, and of ReserveNil. -/
import Derived.Test.YtiemlpkkbfojfaaDesk2
namespace Go.Proofs.Ytiemlpkkbfojfaa.Res
open Go.RowKit
set_option linter.unusedVariables false
theorem fault_nil (n : Int) (w : World) : Calls Try.prog 23 #[.pointer none, .int .i64 n] w fun e w' => e = .returned (.int .i64 2) ∧ w' = w := by
  go_enter Try.func23, Try.ntmps23
  go_wp2_with (fail)
  refine (in_nil _ _).mono ?_
  rintro e w' ⟨rfl, rfl⟩
  go_wp2_with (fail)
  go_ret
  exact ⟨rfl, rfl⟩
theorem Register_nil (n k : Int) (keep : Bool) (w : World) : Calls Try.prog 11 #[.pointer none, .int .i64 n, .int .u64 k, .bool keep] w fun e w' => e = .returned (.int .i64 2) ∧ w' = w := by
  go_enter Try.func11, Try.ntmps11
  go_wp2_with (fail)
  refine (in_nil _ _).mono ?_
  rintro e w' ⟨rfl, rfl⟩
  go_wp2_with (fail)
  go_ret
  exact ⟨rfl, rfl⟩
theorem Reserve_nil (n k : Int) (w : World) : Calls Try.prog 12 #[.pointer none, .int .i64 n, .int .i64 k] w fun e w' => e = .returned (.int .i64 2) ∧ w' = w := by
  go_enter Try.func12, Try.ntmps12
  go_wp2_with (fail)
  refine (fault_nil _ _).mono ?_
  rintro e w' ⟨rfl, rfl⟩
  go_wp2_with (fail)
  go_ret
  exact ⟨rfl, rfl⟩
theorem Release_nil (n : Int) (w : World) : Calls Try.prog 13 #[.pointer none, .int .i64 n] w fun e w' => e = .returned (.int .i64 2) ∧ w' = w := by
  go_enter Try.func13, Try.ntmps13
  go_wp2_with (fail)
  refine (fault_nil _ _).mono ?_
  rintro e w' ⟨rfl, rfl⟩
  go_wp2_with (fail)
  go_ret
  exact ⟨rfl, rfl⟩
theorem Clear_nil (n : Int) (w : World) : Calls Try.prog 21 #[.pointer none, .int .i64 n] w fun e w' => e = .returned (.int .i64 2) ∧ w' = w := by
  go_enter Try.func21, Try.ntmps21
  go_wp2_with (fail)
  refine (fault_nil _ _).mono ?_
  rintro e w' ⟨rfl, rfl⟩
  go_wp2_with (fail)
  go_ret
  exact ⟨rfl, rfl⟩
theorem Preempt_nil (n k : Int) (w : World) : Calls Try.prog 15 #[.pointer none, .int .i64 n, .int .u64 k] w fun e w' => e = .returned (.int .i64 2) ∧ w' = w := by
  go_enter Try.func15, Try.ntmps15
  go_wp2_with (fail)
  refine (fault_nil _ _).mono ?_
  rintro e w' ⟨rfl, rfl⟩
  go_wp2_with (fail)
  go_ret
  exact ⟨rfl, rfl⟩
theorem May_nil (n : Int) (write : Bool) (w : World) : Calls Try.prog 14 #[.pointer none, .int .i64 n, .bool write] w fun e w' => e = .returned (.bool false) ∧ w' = w := by
  go_enter Try.func14, Try.ntmps14
  go_wp2_with (fail)
  refine (in_nil _ _).mono ?_
  rintro e w' ⟨rfl, rfl⟩
  go_wp2_with (fail)
  go_ret
  exact ⟨rfl, rfl⟩
theorem Key_nil (n : Int) (w : World) : Calls Try.prog 16 #[.pointer none, .int .i64 n] w fun e w' => e = .returned (.int .u64 0) ∧ w' = w := by
  go_enter Try.func16, Try.ntmps16
  go_wp2_with (fail)
  refine (in_nil _ _).mono ?_
  rintro e w' ⟨rfl, rfl⟩
  go_wp2_with (fail)
  go_ret
  exact ⟨rfl, rfl⟩
theorem Holder_nil  (w : World) : Calls Try.prog 17 #[.pointer none] w fun e w' => e = .returned (.tuple #[.int .i64 0, .int .i64 0, .int .i64 2]) ∧ w' = w := by
  go_enter Try.func17, Try.ntmps17
  go_wp2_with (fail)
  go_ret3
  exact ⟨rfl, rfl⟩
theorem Lose_nil  (w : World) : Calls Try.prog 20 #[.pointer none] w fun e w' => e = .returned (.tuple #[]) ∧ w' = w := by
  go_enter Try.func20, Try.ntmps20
  go_wp2_with (fail)
  go_end0
  exact ⟨rfl, rfl⟩
/-- The state behind a call on the desk at g, of the call's own from B on. -/
theorem awake_any (w : World) : Calls Try.prog 10 #[] w fun e w' => e = .returned (.bool true) ∧ Below w.heap.size w w' := by
  go_enter Try.func10, Try.ntmps10
  go_wp2_with (fail)
  refine (new_any _).mono ?_
  rintro e w0 ⟨rfl, rfl⟩
  have hD0 := hasD_new w
  have hB0 : Below w.heap.size w (w.alloc (.cells Dk.new.cells 51)) := (Below.refl _ _).alloc (Nat.le_refl _) _
  generalize w.alloc (.cells Dk.new.cells 51) = w0 at *
  have H0 := Lib.hid hD0
  have HB0 := Lib.hid hB0
  clear hD0 hB0
  go_wp2_with (fail)
  refine (Register_any w.heap.size _ 1 7 false w0 H0.out).mono ?_
  rintro e w1 ⟨rfl, h1, o1⟩
  rw [show Dk.new.regE 1 = 0 from by decide]
  have H1 := Lib.hid h1
  have HB1 := Lib.hid (Only.below HB0.out o1 (Nat.le_of_lt H0.out.lt) (by simp))
  clear h1 o1
  go_wp2_with (fail)
  refine (Reserve_any w.heap.size _ 1 1 w1 H1.out).mono ?_
  rintro e w2 ⟨rfl, h2, o2⟩
  rw [show (Dk.new.reg 1 7 false).resE 1 1 = 0 from by decide]
  have H2 := Lib.hid h2
  have HB2 := Lib.hid (Only.below HB1.out o2 (Nat.le_of_lt H1.out.lt) (by simp))
  clear h2 o2
  go_wp2_with (fail)
  refine (May_any w.heap.size _ 2 false w2 H2.out).mono ?_
  rintro e w3 ⟨rfl, rfl⟩
  rw [show ((Dk.new.reg 1 7 false).res 1 1).may 2 false = true from by decide]
  go_wp2_with (fail)
  refine (May_any w.heap.size _ 2 true _ H2.out).mono ?_
  rintro e w3 ⟨rfl, rfl⟩
  rw [show ((Dk.new.reg 1 7 false).res 1 1).may 2 true = false from by decide]
  go_wp2_with (fail)
  refine (May_any w.heap.size _ 1 true _ H2.out).mono ?_
  rintro e w3 ⟨rfl, rfl⟩
  rw [show ((Dk.new.reg 1 7 false).res 1 1).may 1 true = true from by decide]
  go_wp2_with (fail)
  go_ret
  exact ⟨rfl, HB2.out⟩
theorem nil_walk (n k key : Int) (keep : Bool) (w : World) : Calls Try.prog 8 #[.int .i64 n, .int .i64 k, .int .u64 key, .bool keep] w fun e w' => e = .returned (.bool true) ∧ Below w.heap.size w w' := by
  go_enter Try.func8, Try.ntmps8
  go_wp2_with (fail)
  refine (Lose_nil _).mono ?_
  rintro e w' ⟨rfl, rfl⟩
  go_wp2_with (fail)
  refine (Holder_nil _).mono ?_
  rintro e w' ⟨rfl, rfl⟩
  go_wp2_with (fail)
  refine (awake_any _).mono ?_
  rintro e w1 ⟨rfl, hb1⟩
  have HB1 := Lib.hid hb1
  clear hb1
  go_wp2_with (fail)
  refine (Register_nil _ _ _ _).mono ?_
  rintro e w' ⟨rfl, rfl⟩
  go_wp2_with (fail)
  refine (Reserve_nil _ _ _).mono ?_
  rintro e w' ⟨rfl, rfl⟩
  go_wp2_with (fail)
  refine (Release_nil _ _).mono ?_
  rintro e w' ⟨rfl, rfl⟩
  go_wp2_with (fail)
  refine (Clear_nil _ _).mono ?_
  rintro e w' ⟨rfl, rfl⟩
  go_wp2_with (fail)
  refine (Preempt_nil _ _ _).mono ?_
  rintro e w' ⟨rfl, rfl⟩
  go_wp2_with (fail)
  refine (May_nil _ _ _).mono ?_
  rintro e w' ⟨rfl, rfl⟩
  go_wp2_with (fail)
  refine (Key_nil _ _).mono ?_
  rintro e w' ⟨rfl, rfl⟩
  go_wp2_with (fail)
  go_ret
  exact ⟨rfl, HB1.out⟩
end Go.Proofs.Ytiemlpkkbfojfaa.Res
