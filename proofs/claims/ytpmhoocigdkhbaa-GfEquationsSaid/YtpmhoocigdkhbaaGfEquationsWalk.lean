/- The walk of GfEquations over the contracts of the functions that it calls: the law's body, once where the equations have no one solution and once where they have. -/
import Derived.Test.YtpmhoocigdkhbaaPGfSolvesx2
import Derived.Test.YtpmhoocigdkhbaaBrSolves
namespace Go.Proofs.Ytpmhoocigdkhbaa.WalkEquations
open Go.RowKit Go.Proofs.Ytpmhoocigdkhbaa.PGfSolves Go.Proofs.YtpmhoocigdkhbaaW.PrintWords Go.Proofs.YtpmhoocigdkhbaaW.PrintLast Go.Proofs.YtpmhoocigdkhbaaW.PrintMore Go.Proofs.Ytpmhoocigdkhbaa.Bridge Go.Proofs.Ytpmhoocigdkhbaa.BrPGfSolves

theorem mul_q (a b : Nat) (w : World) (ha : a < 256) (hb : b < 256) : Calls Try.prog 16 #[.int .u8 (a : Int), .int .u8 (b : Int)] w fun e w' => e = .returned (.int .u8 ((Math.mul a b : Nat) : Int)) ∧ Drawn0 w w' := by
  obtain ⟨k, hk⟩ := (mul_ev a b ha hb).rounds
  exact gf_Mul.calls k _ _ _ w hk
theorem add_q (a b : Nat) (w : World) (ha : a < 256) (hb : b < 256) : Calls Try.prog 15 #[.int .u8 (a : Int), .int .u8 (b : Int)] w fun e w' => e = .returned (.int .u8 ((a ^^^ b : Nat) : Int)) ∧ Drawn0 w w' :=
  gf_Add.calls _ _ _ w (add_f a b ha hb)
theorem awake_q (w : World) : Calls Try.prog 14 #[] w fun e w' => e = .returned (.bool true) ∧ Drawn0 w w' := by
  obtain ⟨k, hk⟩ := awake_ev.rounds
  exact ravelinlaw01_awake.calls k _ w hk

set_option maxRecDepth 100000 in
theorem walk0 (a b c d x y : Nat) (w : World) (ha : a < 256) (hb : b < 256) (hc : c < 256) (hd : d < 256) (hx : x < 256) (hy : y < 256) (h0 : Math.det a b c d = 0) :
    Calls Try.prog 6 #[.int .u8 (a : Int), .int .u8 (b : Int), .int .u8 (c : Int), .int .u8 (d : Int), .int .u8 (x : Int), .int .u8 (y : Int)] w fun e w' => e = .returned (.bool true) ∧ Drawn0 w w' := by
  have q1 := Math.mul_lt (b := x) ha
  have q2 := Math.mul_lt (b := y) hb
  have q3 := Math.mul_lt (b := x) hc
  have q4 := Math.mul_lt (b := y) hd
  have r1 := Math.xor_lt q1 q2
  have r2 := Math.xor_lt q3 q4
  have same : Math.mul a d = Math.mul b c := Math.xor_eq_zero.1 h0
  have hbeq : (((Math.mul a d : Nat) : Int) == ((Math.mul b c : Nat) : Int)) = true := by rw [same]; exact beq_self_eq_true _
  obtain ⟨ks, hks⟩ := (solve_ev0 a b c d (Math.mul a x ^^^ Math.mul b y) (Math.mul c x ^^^ Math.mul d y) ha hb hc hd h0).rounds
  have S := Aside0.mk fun w => gf_Solve.calls ks _ _ _ _ _ _ _ _ _ w hks
  clear hks same h0
  go_enter Try.func6, Try.ntmps6
  go_wp2_with (fail)
  refine (mul_q a x _ ha hx).mono ?_; rintro e w' ⟨rfl, ⟨n1, rfl⟩⟩
  go_wp2_with (fail)
  refine (mul_q b y _ hb hy).mono ?_; rintro e w' ⟨rfl, ⟨n2, rfl⟩⟩
  go_wp2_with (fail)
  refine (add_q _ _ _ q1 q2).mono ?_; rintro e w' ⟨rfl, ⟨n3, rfl⟩⟩
  go_wp2_with (fail)
  refine (mul_q c x _ hc hx).mono ?_; rintro e w' ⟨rfl, ⟨n4, rfl⟩⟩
  go_wp2_with (fail)
  refine (mul_q d y _ hd hy).mono ?_; rintro e w' ⟨rfl, ⟨n5, rfl⟩⟩
  go_wp2_with (fail)
  refine (add_q _ _ _ q3 q4).mono ?_; rintro e w' ⟨rfl, ⟨n6, rfl⟩⟩
  go_wp2_with (fail)
  refine (S.out _).mono ?_; rintro e w' ⟨rfl, ⟨n7, rfl⟩⟩
  go_wp2_with (fail)
  refine (awake_q _).mono ?_; rintro e w' ⟨rfl, ⟨n8, rfl⟩⟩
  go_wp2_with (fail)
  refine (mul_q a d _ ha hd).mono ?_; rintro e w' ⟨rfl, ⟨n9, rfl⟩⟩
  go_wp2_with (fail)
  refine (mul_q b c _ hb hc).mono ?_; rintro e w' ⟨rfl, ⟨n10, rfl⟩⟩
  go_wp2_with (fail)
  go_ret
  exact ⟨rfl, ⟨⟨_, rfl⟩⟩⟩

set_option maxRecDepth 100000 in
theorem walk1 (a b c d x y : Nat) (w : World) (ha : a < 256) (hb : b < 256) (hc : c < 256) (hd : d < 256) (hx : x < 256) (hy : y < 256) (h0 : Math.det a b c d ≠ 0) :
    Calls Try.prog 6 #[.int .u8 (a : Int), .int .u8 (b : Int), .int .u8 (c : Int), .int .u8 (d : Int), .int .u8 (x : Int), .int .u8 (y : Int)] w fun e w' => e = .returned (.bool true) ∧ Drawn0 w w' := by
  have q1 := Math.mul_lt (b := x) ha
  have q2 := Math.mul_lt (b := y) hb
  have q3 := Math.mul_lt (b := x) hc
  have q4 := Math.mul_lt (b := y) hd
  have r1 := Math.xor_lt q1 q2
  have r2 := Math.xor_lt q3 q4
  have same : Math.mul a d ≠ Math.mul b c := fun h => h0 (Math.xor_eq_zero.2 h)
  have hbeq : (((Math.mul a d : Nat) : Int) == ((Math.mul b c : Nat) : Int)) = false := by rw [beq_eq_false_iff_ne]; omega
  obtain ⟨ks, hks⟩ := (solve_ev a b c d (Math.mul a x ^^^ Math.mul b y) (Math.mul c x ^^^ Math.mul d y) ha hb hc hd r1 r2 h0).rounds
  obtain ⟨ux, uy⟩ := Math.sol_unique ha hb hc hd hx hy h0 rfl rfl
  rw [← ux, ← uy] at hks
  have S := Aside0.mk fun w => gf_Solve.calls ks _ _ _ _ _ _ _ _ _ w hks
  clear hks same h0 ux uy
  go_enter Try.func6, Try.ntmps6
  go_wp2_with (fail)
  refine (mul_q a x _ ha hx).mono ?_; rintro e w' ⟨rfl, ⟨n1, rfl⟩⟩
  go_wp2_with (fail)
  refine (mul_q b y _ hb hy).mono ?_; rintro e w' ⟨rfl, ⟨n2, rfl⟩⟩
  go_wp2_with (fail)
  refine (add_q _ _ _ q1 q2).mono ?_; rintro e w' ⟨rfl, ⟨n3, rfl⟩⟩
  go_wp2_with (fail)
  refine (mul_q c x _ hc hx).mono ?_; rintro e w' ⟨rfl, ⟨n4, rfl⟩⟩
  go_wp2_with (fail)
  refine (mul_q d y _ hd hy).mono ?_; rintro e w' ⟨rfl, ⟨n5, rfl⟩⟩
  go_wp2_with (fail)
  refine (add_q _ _ _ q3 q4).mono ?_; rintro e w' ⟨rfl, ⟨n6, rfl⟩⟩
  go_wp2_with (fail)
  refine (S.out _).mono ?_; rintro e w' ⟨rfl, ⟨n7, rfl⟩⟩
  go_wp2_with (fail)
  refine (awake_q _).mono ?_; rintro e w' ⟨rfl, ⟨n8, rfl⟩⟩
  go_wp2_with (fail)
  refine (mul_q a d _ ha hd).mono ?_; rintro e w' ⟨rfl, ⟨n9, rfl⟩⟩
  go_wp2_with (fail)
  refine (mul_q b c _ hb hc).mono ?_; rintro e w' ⟨rfl, ⟨n10, rfl⟩⟩
  go_wp2_with (fail)
  go_ret
  exact ⟨rfl, ⟨⟨_, rfl⟩⟩⟩

/-- GfEquations answers true, whatever comes in. -/
theorem walk (a b c d x y : Nat) (w : World) (ha : a < 256) (hb : b < 256) (hc : c < 256) (hd : d < 256) (hx : x < 256) (hy : y < 256) :
    Calls Try.prog 6 #[.int .u8 (a : Int), .int .u8 (b : Int), .int .u8 (c : Int), .int .u8 (d : Int), .int .u8 (x : Int), .int .u8 (y : Int)] w fun e w' => e = .returned (.bool true) ∧ Below w.heap.size w w' := by
  by_cases h0 : Math.det a b c d = 0
  · exact (walk0 a b c d x y w ha hb hc hd hx hy h0).mono fun _ _ h => ⟨h.1, h.2.below⟩
  · exact (walk1 a b c d x y w ha hb hc hd hx hy h0).mono fun _ _ h => ⟨h.1, h.2.below⟩

theorem walk_int (a0 a1 a2 a3 a4 a5 : Int) (w : World) (w0 : (Lit.int .u8 a0).wf = true) (w1 : (Lit.int .u8 a1).wf = true) (w2 : (Lit.int .u8 a2).wf = true) (w3 : (Lit.int .u8 a3).wf = true) (w4 : (Lit.int .u8 a4).wf = true) (w5 : (Lit.int .u8 a5).wf = true) :
    Calls Try.prog 6 #[.int .u8 a0, .int .u8 a1, .int .u8 a2, .int .u8 a3, .int .u8 a4, .int .u8 a5] w fun e w' => e = .returned (.bool true) ∧ Below w.heap.size w w' := by
  obtain ⟨a, rfl, ha⟩ := wf_u8 w0
  obtain ⟨b, rfl, hb⟩ := wf_u8 w1
  obtain ⟨c, rfl, hc⟩ := wf_u8 w2
  obtain ⟨d, rfl, hd⟩ := wf_u8 w3
  obtain ⟨x, rfl, hx⟩ := wf_u8 w4
  obtain ⟨y, rfl, hy⟩ := wf_u8 w5
  exact walk a b c d x y w ha hb hc hd hx hy

end Go.Proofs.Ytpmhoocigdkhbaa.WalkEquations
