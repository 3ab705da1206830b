/- The walk of GfLaws over the contracts of the functions that it calls: the law's body, once for a = 0, once for b = 0, once for the others; and that it answers true. -/
import Derived.Test.YtpmhoocigdkhbaaPGfPowersx2
import Derived.Test.YtpmhoocigdkhbaaPGfProductsx2
import Derived.Test.YtpmhoocigdkhbaaBrPowers
import Derived.Test.YtpmhoocigdkhbaaBrProducts
namespace Go.Proofs.Ytpmhoocigdkhbaa.WalkLaws
open Go.RowKit Go.Proofs.YtpmhoocigdkhbaaW.PrintWords Go.Proofs.YtpmhoocigdkhbaaW.PrintLast Go.Proofs.YtpmhoocigdkhbaaW.PrintMore Go.Proofs.Ytpmhoocigdkhbaa.Bridge

theorem mul_q (a b : Nat) (w : World) (ha : a < 256) (hb : b < 256) : Calls Try.prog 16 #[.int .u8 (a : Int), .int .u8 (b : Int)] w fun e w' => e = .returned (.int .u8 ((Math.mul a b : Nat) : Int)) ∧ Drawn0 w w' := by
  obtain ⟨k, hk⟩ := (BrPGfPowers.mul_ev a b ha hb).rounds
  exact PGfPowers.gf_Mul.calls k _ _ _ w hk
theorem add_q (a b : Nat) (w : World) (ha : a < 256) (hb : b < 256) : Calls Try.prog 15 #[.int .u8 (a : Int), .int .u8 (b : Int)] w fun e w' => e = .returned (.int .u8 ((a ^^^ b : Nat) : Int)) ∧ Drawn0 w w' :=
  PGfPowers.gf_Add.calls _ _ _ w (BrPGfPowers.add_f a b ha hb)
theorem awake_q (w : World) : Calls Try.prog 14 #[] w fun e w' => e = .returned (.bool true) ∧ Drawn0 w w' := by
  obtain ⟨k, hk⟩ := BrPGfPowers.awake_ev.rounds
  exact PGfPowers.ravelinlaw01_awake.calls k _ w hk
theorem exp_q (n : Int) (w : World) : Calls Try.prog 21 #[.int .i64 n] w fun e w' => e = .returned (.int .u8 ((Math.e (BrPGfPowers.rnd n) : Nat) : Int)) ∧ Drawn0 w w' := by
  obtain ⟨k, hk⟩ := (BrPGfPowers.exp_ev n).rounds
  exact PGfPowers.gf_Exp.calls k _ _ w hk
theorem inv_q0 (w : World) : Calls Try.prog 10 #[.int .u8 ((0 : Nat) : Int)] w fun e w' => e = .returned (.tuple #[.int .u8 0, .int .i64 3]) ∧ Drawn0 w w' := by
  obtain ⟨k, hk⟩ := (BrPGfProducts.inv_ev0).rounds
  exact PGfProducts.gf_Inv.calls k _ _ _ w hk
theorem inv_q (a : Nat) (w : World) (ha : a < 256) (h0 : a ≠ 0) : Calls Try.prog 10 #[.int .u8 (a : Int)] w fun e w' => e = .returned (.tuple #[.int .u8 ((Math.inv a : Nat) : Int), .int .i64 0]) ∧ Drawn0 w w' := by
  obtain ⟨k, hk⟩ := (BrPGfProducts.inv_ev a ha h0).rounds
  exact PGfProducts.gf_Inv.calls k _ _ _ w hk
theorem log_q0 (w : World) : Calls Try.prog 22 #[.int .u8 ((0 : Nat) : Int)] w fun e w' => e = .returned (.tuple #[.int .i64 0, .int .i64 3]) ∧ Drawn0 w w' := by
  obtain ⟨k, hk⟩ := (BrPGfPowers.log_ev0).rounds
  exact PGfPowers.gf_Log.calls k _ _ _ w hk
theorem log_q (a m : Nat) (w : World) (ha : a < 256) (h0 : a ≠ 0) (hm : BrPGfPowers.IsLog a m) : Calls Try.prog 22 #[.int .u8 (a : Int)] w fun e w' => e = .returned (.tuple #[.int .i64 (m : Int), .int .i64 0]) ∧ Drawn0 w w' := by
  obtain ⟨k, hk⟩ := (BrPGfPowers.log_ev a m ha h0 hm).rounds
  exact PGfPowers.gf_Log.calls k _ _ _ w hk

set_option maxRecDepth 100000 in
theorem walk00 (a b c ab ba bc l1 l2 s as_ ac r a1 : Nat) (m f : Int) (w : World)
    (M1 : Aside0 (∀ w, Calls Try.prog 16 #[.int .u8 (a : Int), .int .u8 (b : Int)] w fun e' w' => e' = .returned (.int .u8 (ab : Int)) ∧ Drawn0 w w'))
    (M2 : Aside0 (∀ w, Calls Try.prog 16 #[.int .u8 (b : Int), .int .u8 (a : Int)] w fun e' w' => e' = .returned (.int .u8 (ba : Int)) ∧ Drawn0 w w'))
    (M3 : Aside0 (∀ w, Calls Try.prog 16 #[.int .u8 (b : Int), .int .u8 (c : Int)] w fun e' w' => e' = .returned (.int .u8 (bc : Int)) ∧ Drawn0 w w'))
    (M4 : Aside0 (∀ w, Calls Try.prog 16 #[.int .u8 (a : Int), .int .u8 (bc : Int)] w fun e' w' => e' = .returned (.int .u8 (l1 : Int)) ∧ Drawn0 w w'))
    (M5 : Aside0 (∀ w, Calls Try.prog 16 #[.int .u8 (ab : Int), .int .u8 (c : Int)] w fun e' w' => e' = .returned (.int .u8 (l2 : Int)) ∧ Drawn0 w w'))
    (A1 : Aside0 (∀ w, Calls Try.prog 15 #[.int .u8 (b : Int), .int .u8 (c : Int)] w fun e' w' => e' = .returned (.int .u8 (s : Int)) ∧ Drawn0 w w'))
    (M6 : Aside0 (∀ w, Calls Try.prog 16 #[.int .u8 (a : Int), .int .u8 (s : Int)] w fun e' w' => e' = .returned (.int .u8 (as_ : Int)) ∧ Drawn0 w w'))
    (M7 : Aside0 (∀ w, Calls Try.prog 16 #[.int .u8 (a : Int), .int .u8 (c : Int)] w fun e' w' => e' = .returned (.int .u8 (ac : Int)) ∧ Drawn0 w w'))
    (A2 : Aside0 (∀ w, Calls Try.prog 15 #[.int .u8 (ab : Int), .int .u8 (ac : Int)] w fun e' w' => e' = .returned (.int .u8 (r : Int)) ∧ Drawn0 w w'))
    (M8 : Aside0 (∀ w, Calls Try.prog 16 #[.int .u8 (a : Int), .int .u8 1] w fun e' w' => e' = .returned (.int .u8 (a1 : Int)) ∧ Drawn0 w w'))
    (b1 : ((ab : Int) != (ba : Int)) = false) (b2 : ((l1 : Int) != (l2 : Int)) = false) (b3 : ((as_ : Int) != (r : Int)) = false) (b4 : ((a1 : Int) != (a : Int)) = false)
    (V : Aside0 (∀ w, Calls Try.prog 10 #[.int .u8 (a : Int)] w fun e' w' => e' = .returned (.tuple #[.int .u8 0, .int .i64 3]) ∧ Drawn0 w w'))
    (L1 : Aside0 (∀ w, Calls Try.prog 22 #[.int .u8 (a : Int)] w fun e' w' => e' = .returned (.tuple #[.int .i64 0, .int .i64 3]) ∧ Drawn0 w w'))
    (L2 : Aside0 (∀ w, Calls Try.prog 22 #[.int .u8 (b : Int)] w fun e' w' => e' = .returned (.tuple #[.int .i64 m, .int .i64 f]) ∧ Drawn0 w w')) (c1 : ((a : Int) == 0) = true) (c2 : ((a : Int) != 0) = false) :
    Calls Try.prog 7 #[.int .u8 (a : Int), .int .u8 (b : Int), .int .u8 (c : Int)] w fun e' w' => e' = .returned (.bool true) ∧ Drawn0 w w' := by
  go_enter Try.func7, Try.ntmps7
  go_wp2_with (fail)
  refine (awake_q _).mono ?_; rintro e' w' ⟨rfl, ⟨n1, rfl⟩⟩
  go_wp2_with (fail)
  refine (M1.out _).mono ?_; rintro e' w' ⟨rfl, ⟨n2, rfl⟩⟩
  go_wp2_with (fail)
  refine (M2.out _).mono ?_; rintro e' w' ⟨rfl, ⟨n3, rfl⟩⟩
  go_wp2_with (fail)
  refine (M3.out _).mono ?_; rintro e' w' ⟨rfl, ⟨n4, rfl⟩⟩
  go_wp2_with (fail)
  refine (M4.out _).mono ?_; rintro e' w' ⟨rfl, ⟨n5, rfl⟩⟩
  go_wp2_with (fail)
  refine (M1.out _).mono ?_; rintro e' w' ⟨rfl, ⟨n6, rfl⟩⟩
  go_wp2_with (fail)
  refine (M5.out _).mono ?_; rintro e' w' ⟨rfl, ⟨n7, rfl⟩⟩
  go_wp2_with (fail)
  refine (A1.out _).mono ?_; rintro e' w' ⟨rfl, ⟨n8, rfl⟩⟩
  go_wp2_with (fail)
  refine (M6.out _).mono ?_; rintro e' w' ⟨rfl, ⟨n9, rfl⟩⟩
  go_wp2_with (fail)
  refine (M1.out _).mono ?_; rintro e' w' ⟨rfl, ⟨n10, rfl⟩⟩
  go_wp2_with (fail)
  refine (M7.out _).mono ?_; rintro e' w' ⟨rfl, ⟨n11, rfl⟩⟩
  go_wp2_with (fail)
  refine (A2.out _).mono ?_; rintro e' w' ⟨rfl, ⟨n12, rfl⟩⟩
  go_wp2_with (fail)
  refine (M8.out _).mono ?_; rintro e' w' ⟨rfl, ⟨n13, rfl⟩⟩
  go_wp2_with (fail)
  refine (V.out _).mono ?_; rintro e' w' ⟨rfl, ⟨n14, rfl⟩⟩
  go_wp2_with (fail)
  refine (L1.out _).mono ?_; rintro e' w' ⟨rfl, ⟨n15, rfl⟩⟩
  go_wp2_with (fail)
  refine (L2.out _).mono ?_; rintro e' w' ⟨rfl, ⟨n16, rfl⟩⟩
  go_wp2_with (fail)
  go_ret
  exact ⟨rfl, ⟨⟨_, rfl⟩⟩⟩

set_option maxRecDepth 100000 in
theorem walk10 (a b c ab ba bc l1 l2 s as_ ac r a1 : Nat) (x k : Nat) (w : World)
    (M1 : Aside0 (∀ w, Calls Try.prog 16 #[.int .u8 (a : Int), .int .u8 (b : Int)] w fun e' w' => e' = .returned (.int .u8 (ab : Int)) ∧ Drawn0 w w'))
    (M2 : Aside0 (∀ w, Calls Try.prog 16 #[.int .u8 (b : Int), .int .u8 (a : Int)] w fun e' w' => e' = .returned (.int .u8 (ba : Int)) ∧ Drawn0 w w'))
    (M3 : Aside0 (∀ w, Calls Try.prog 16 #[.int .u8 (b : Int), .int .u8 (c : Int)] w fun e' w' => e' = .returned (.int .u8 (bc : Int)) ∧ Drawn0 w w'))
    (M4 : Aside0 (∀ w, Calls Try.prog 16 #[.int .u8 (a : Int), .int .u8 (bc : Int)] w fun e' w' => e' = .returned (.int .u8 (l1 : Int)) ∧ Drawn0 w w'))
    (M5 : Aside0 (∀ w, Calls Try.prog 16 #[.int .u8 (ab : Int), .int .u8 (c : Int)] w fun e' w' => e' = .returned (.int .u8 (l2 : Int)) ∧ Drawn0 w w'))
    (A1 : Aside0 (∀ w, Calls Try.prog 15 #[.int .u8 (b : Int), .int .u8 (c : Int)] w fun e' w' => e' = .returned (.int .u8 (s : Int)) ∧ Drawn0 w w'))
    (M6 : Aside0 (∀ w, Calls Try.prog 16 #[.int .u8 (a : Int), .int .u8 (s : Int)] w fun e' w' => e' = .returned (.int .u8 (as_ : Int)) ∧ Drawn0 w w'))
    (M7 : Aside0 (∀ w, Calls Try.prog 16 #[.int .u8 (a : Int), .int .u8 (c : Int)] w fun e' w' => e' = .returned (.int .u8 (ac : Int)) ∧ Drawn0 w w'))
    (A2 : Aside0 (∀ w, Calls Try.prog 15 #[.int .u8 (ab : Int), .int .u8 (ac : Int)] w fun e' w' => e' = .returned (.int .u8 (r : Int)) ∧ Drawn0 w w'))
    (M8 : Aside0 (∀ w, Calls Try.prog 16 #[.int .u8 (a : Int), .int .u8 1] w fun e' w' => e' = .returned (.int .u8 (a1 : Int)) ∧ Drawn0 w w'))
    (b1 : ((ab : Int) != (ba : Int)) = false) (b2 : ((l1 : Int) != (l2 : Int)) = false) (b3 : ((as_ : Int) != (r : Int)) = false) (b4 : ((a1 : Int) != (a : Int)) = false)
    (V : Aside0 (∀ w, Calls Try.prog 10 #[.int .u8 (a : Int)] w fun e' w' => e' = .returned (.tuple #[.int .u8 (x : Int), .int .i64 0]) ∧ Drawn0 w w'))
    (M9 : Aside0 (∀ w, Calls Try.prog 16 #[.int .u8 (a : Int), .int .u8 (x : Int)] w fun e' w' => e' = .returned (.int .u8 1) ∧ Drawn0 w w'))
    (L1 : Aside0 (∀ w, Calls Try.prog 22 #[.int .u8 (a : Int)] w fun e' w' => e' = .returned (.tuple #[.int .i64 (k : Int), .int .i64 0]) ∧ Drawn0 w w'))
    (L2 : Aside0 (∀ w, Calls Try.prog 22 #[.int .u8 (b : Int)] w fun e' w' => e' = .returned (.tuple #[.int .i64 0, .int .i64 3]) ∧ Drawn0 w w')) (c1 : ((a : Int) == 0) = false) (c2 : ((a : Int) != 0) = true) :
    Calls Try.prog 7 #[.int .u8 (a : Int), .int .u8 (b : Int), .int .u8 (c : Int)] w fun e' w' => e' = .returned (.bool true) ∧ Drawn0 w w' := by
  go_enter Try.func7, Try.ntmps7
  go_wp2_with (fail)
  refine (awake_q _).mono ?_; rintro e' w' ⟨rfl, ⟨n1, rfl⟩⟩
  go_wp2_with (fail)
  refine (M1.out _).mono ?_; rintro e' w' ⟨rfl, ⟨n2, rfl⟩⟩
  go_wp2_with (fail)
  refine (M2.out _).mono ?_; rintro e' w' ⟨rfl, ⟨n3, rfl⟩⟩
  go_wp2_with (fail)
  refine (M3.out _).mono ?_; rintro e' w' ⟨rfl, ⟨n4, rfl⟩⟩
  go_wp2_with (fail)
  refine (M4.out _).mono ?_; rintro e' w' ⟨rfl, ⟨n5, rfl⟩⟩
  go_wp2_with (fail)
  refine (M1.out _).mono ?_; rintro e' w' ⟨rfl, ⟨n6, rfl⟩⟩
  go_wp2_with (fail)
  refine (M5.out _).mono ?_; rintro e' w' ⟨rfl, ⟨n7, rfl⟩⟩
  go_wp2_with (fail)
  refine (A1.out _).mono ?_; rintro e' w' ⟨rfl, ⟨n8, rfl⟩⟩
  go_wp2_with (fail)
  refine (M6.out _).mono ?_; rintro e' w' ⟨rfl, ⟨n9, rfl⟩⟩
  go_wp2_with (fail)
  refine (M1.out _).mono ?_; rintro e' w' ⟨rfl, ⟨n10, rfl⟩⟩
  go_wp2_with (fail)
  refine (M7.out _).mono ?_; rintro e' w' ⟨rfl, ⟨n11, rfl⟩⟩
  go_wp2_with (fail)
  refine (A2.out _).mono ?_; rintro e' w' ⟨rfl, ⟨n12, rfl⟩⟩
  go_wp2_with (fail)
  refine (M8.out _).mono ?_; rintro e' w' ⟨rfl, ⟨n13, rfl⟩⟩
  go_wp2_with (fail)
  refine (V.out _).mono ?_; rintro e' w' ⟨rfl, ⟨n14, rfl⟩⟩
  go_wp2_with (fail)
  refine (M9.out _).mono ?_; rintro e' w' ⟨rfl, ⟨n15, rfl⟩⟩
  go_wp2_with (fail)
  refine (L1.out _).mono ?_; rintro e' w' ⟨rfl, ⟨n16, rfl⟩⟩
  go_wp2_with (fail)
  refine (L2.out _).mono ?_; rintro e' w' ⟨rfl, ⟨n17, rfl⟩⟩
  go_wp2_with (fail)
  go_ret
  exact ⟨rfl, ⟨⟨_, rfl⟩⟩⟩

set_option maxRecDepth 100000 in
theorem walk11 (a b c ab ba bc l1 l2 s as_ ac r a1 : Nat) (x k m : Nat) (w : World)
    (M1 : Aside0 (∀ w, Calls Try.prog 16 #[.int .u8 (a : Int), .int .u8 (b : Int)] w fun e' w' => e' = .returned (.int .u8 (ab : Int)) ∧ Drawn0 w w'))
    (M2 : Aside0 (∀ w, Calls Try.prog 16 #[.int .u8 (b : Int), .int .u8 (a : Int)] w fun e' w' => e' = .returned (.int .u8 (ba : Int)) ∧ Drawn0 w w'))
    (M3 : Aside0 (∀ w, Calls Try.prog 16 #[.int .u8 (b : Int), .int .u8 (c : Int)] w fun e' w' => e' = .returned (.int .u8 (bc : Int)) ∧ Drawn0 w w'))
    (M4 : Aside0 (∀ w, Calls Try.prog 16 #[.int .u8 (a : Int), .int .u8 (bc : Int)] w fun e' w' => e' = .returned (.int .u8 (l1 : Int)) ∧ Drawn0 w w'))
    (M5 : Aside0 (∀ w, Calls Try.prog 16 #[.int .u8 (ab : Int), .int .u8 (c : Int)] w fun e' w' => e' = .returned (.int .u8 (l2 : Int)) ∧ Drawn0 w w'))
    (A1 : Aside0 (∀ w, Calls Try.prog 15 #[.int .u8 (b : Int), .int .u8 (c : Int)] w fun e' w' => e' = .returned (.int .u8 (s : Int)) ∧ Drawn0 w w'))
    (M6 : Aside0 (∀ w, Calls Try.prog 16 #[.int .u8 (a : Int), .int .u8 (s : Int)] w fun e' w' => e' = .returned (.int .u8 (as_ : Int)) ∧ Drawn0 w w'))
    (M7 : Aside0 (∀ w, Calls Try.prog 16 #[.int .u8 (a : Int), .int .u8 (c : Int)] w fun e' w' => e' = .returned (.int .u8 (ac : Int)) ∧ Drawn0 w w'))
    (A2 : Aside0 (∀ w, Calls Try.prog 15 #[.int .u8 (ab : Int), .int .u8 (ac : Int)] w fun e' w' => e' = .returned (.int .u8 (r : Int)) ∧ Drawn0 w w'))
    (M8 : Aside0 (∀ w, Calls Try.prog 16 #[.int .u8 (a : Int), .int .u8 1] w fun e' w' => e' = .returned (.int .u8 (a1 : Int)) ∧ Drawn0 w w'))
    (b1 : ((ab : Int) != (ba : Int)) = false) (b2 : ((l1 : Int) != (l2 : Int)) = false) (b3 : ((as_ : Int) != (r : Int)) = false) (b4 : ((a1 : Int) != (a : Int)) = false)
    (V : Aside0 (∀ w, Calls Try.prog 10 #[.int .u8 (a : Int)] w fun e' w' => e' = .returned (.tuple #[.int .u8 (x : Int), .int .i64 0]) ∧ Drawn0 w w'))
    (M9 : Aside0 (∀ w, Calls Try.prog 16 #[.int .u8 (a : Int), .int .u8 (x : Int)] w fun e' w' => e' = .returned (.int .u8 1) ∧ Drawn0 w w'))
    (L1 : Aside0 (∀ w, Calls Try.prog 22 #[.int .u8 (a : Int)] w fun e' w' => e' = .returned (.tuple #[.int .i64 (k : Int), .int .i64 0]) ∧ Drawn0 w w'))
    (L2 : Aside0 (∀ w, Calls Try.prog 22 #[.int .u8 (b : Int)] w fun e' w' => e' = .returned (.tuple #[.int .i64 (m : Int), .int .i64 0]) ∧ Drawn0 w w'))
    (E1 : Aside0 (∀ w, Calls Try.prog 21 #[.int .i64 ((k : Int) + (m : Int))] w fun e' w' => e' = .returned (.int .u8 (ab : Int)) ∧ Drawn0 w w'))
    (E2 : Aside0 (∀ w, Calls Try.prog 21 #[.int .i64 (k : Int)] w fun e' w' => e' = .returned (.int .u8 (a : Int)) ∧ Drawn0 w w'))
    (E3 : Aside0 (∀ w, Calls Try.prog 21 #[.int .i64 (-(k : Int))] w fun e' w' => e' = .returned (.int .u8 (x : Int)) ∧ Drawn0 w w')) (c1 : ((a : Int) == 0) = false) (c2 : ((a : Int) != 0) = true) (hk : k ≤ 254) (hm : m ≤ 254) :
    Calls Try.prog 7 #[.int .u8 (a : Int), .int .u8 (b : Int), .int .u8 (c : Int)] w fun e' w' => e' = .returned (.bool true) ∧ Drawn0 w w' := by
  go_enter Try.func7, Try.ntmps7
  go_wp2_with (fail)
  refine (awake_q _).mono ?_; rintro e' w' ⟨rfl, ⟨n1, rfl⟩⟩
  go_wp2_with (fail)
  refine (M1.out _).mono ?_; rintro e' w' ⟨rfl, ⟨n2, rfl⟩⟩
  go_wp2_with (fail)
  refine (M2.out _).mono ?_; rintro e' w' ⟨rfl, ⟨n3, rfl⟩⟩
  go_wp2_with (fail)
  refine (M3.out _).mono ?_; rintro e' w' ⟨rfl, ⟨n4, rfl⟩⟩
  go_wp2_with (fail)
  refine (M4.out _).mono ?_; rintro e' w' ⟨rfl, ⟨n5, rfl⟩⟩
  go_wp2_with (fail)
  refine (M1.out _).mono ?_; rintro e' w' ⟨rfl, ⟨n6, rfl⟩⟩
  go_wp2_with (fail)
  refine (M5.out _).mono ?_; rintro e' w' ⟨rfl, ⟨n7, rfl⟩⟩
  go_wp2_with (fail)
  refine (A1.out _).mono ?_; rintro e' w' ⟨rfl, ⟨n8, rfl⟩⟩
  go_wp2_with (fail)
  refine (M6.out _).mono ?_; rintro e' w' ⟨rfl, ⟨n9, rfl⟩⟩
  go_wp2_with (fail)
  refine (M1.out _).mono ?_; rintro e' w' ⟨rfl, ⟨n10, rfl⟩⟩
  go_wp2_with (fail)
  refine (M7.out _).mono ?_; rintro e' w' ⟨rfl, ⟨n11, rfl⟩⟩
  go_wp2_with (fail)
  refine (A2.out _).mono ?_; rintro e' w' ⟨rfl, ⟨n12, rfl⟩⟩
  go_wp2_with (fail)
  refine (M8.out _).mono ?_; rintro e' w' ⟨rfl, ⟨n13, rfl⟩⟩
  go_wp2_with (fail)
  refine (V.out _).mono ?_; rintro e' w' ⟨rfl, ⟨n14, rfl⟩⟩
  go_wp2_with (fail)
  refine (M9.out _).mono ?_; rintro e' w' ⟨rfl, ⟨n15, rfl⟩⟩
  go_wp2_with (fail)
  refine (L1.out _).mono ?_; rintro e' w' ⟨rfl, ⟨n16, rfl⟩⟩
  go_wp2_with (fail)
  refine (L2.out _).mono ?_; rintro e' w' ⟨rfl, ⟨n17, rfl⟩⟩
  go_wp2_with (fail)
  refine (E1.out _).mono ?_; rintro e' w' ⟨rfl, ⟨n18, rfl⟩⟩
  go_wp2_with (fail)
  refine (M1.out _).mono ?_; rintro e' w' ⟨rfl, ⟨n19, rfl⟩⟩
  go_wp2_with (fail)
  refine (E2.out _).mono ?_; rintro e' w' ⟨rfl, ⟨n20, rfl⟩⟩
  go_wp2_with (fail)
  refine (E3.out _).mono ?_; rintro e' w' ⟨rfl, ⟨n21, rfl⟩⟩
  go_wp2_with (fail)
  go_ret
  exact ⟨rfl, ⟨⟨_, rfl⟩⟩⟩

theorem pos_bne {a b : Nat} (h : a = b) : ((a : Int) != (b : Int)) = false := by rw [bne_eq_false_iff_eq, h]

/-- GfLaws answers true, whatever comes in. -/
theorem walk (a b c : Nat) (w : World) (ha : a < 256) (hb : b < 256) (hc : c < 256) :
    Calls Try.prog 7 #[.int .u8 (a : Int), .int .u8 (b : Int), .int .u8 (c : Int)] w fun e' w' => e' = .returned (.bool true) ∧ Below w.heap.size w w' := by
  have M8 : ∀ w, Calls Try.prog 16 #[.int .u8 (a : Int), .int .u8 1] w fun e w' => e = .returned (.int .u8 ((Math.mul a 1 : Nat) : Int)) ∧ Drawn0 w w' := fun w => mul_q a 1 w ha (by omega)
  have x1 : Math.mul a b = Math.mul b a := Math.mul_comm ha hb
  have x2 : Math.mul a (Math.mul b c) = Math.mul (Math.mul a b) c := (Math.mul_assoc ha hb hc).symm
  have x3 : Math.mul a (b ^^^ c) = Math.mul a b ^^^ Math.mul a c := Math.mul_xor a b c
  have x4 : Math.mul a 1 = a := Math.mul_one a ha
  have h1 := Math.mul_lt (b := b) ha
  have h2 := Math.mul_lt (b := c) hb
  have h3 := Math.mul_lt (b := c) ha
  have h4 := Math.xor_lt hb hc
  by_cases a0 : a = 0
  · have V : ∀ w, Calls Try.prog 10 #[.int .u8 (a : Int)] w fun e w' => e = .returned (.tuple #[.int .u8 0, .int .i64 3]) ∧ Drawn0 w w' := by rw [a0]; exact inv_q0
    have L1 : ∀ w, Calls Try.prog 22 #[.int .u8 (a : Int)] w fun e w' => e = .returned (.tuple #[.int .i64 0, .int .i64 3]) ∧ Drawn0 w w' := by rw [a0]; exact log_q0
    obtain ⟨m, f, L2⟩ : ∃ m f : Int, ∀ w, Calls Try.prog 22 #[.int .u8 (b : Int)] w fun e w' => e = .returned (.tuple #[.int .i64 m, .int .i64 f]) ∧ Drawn0 w w' := by
      by_cases b0 : b = 0
      · rw [b0]; exact ⟨_, _, log_q0⟩
      · obtain ⟨m, hm⟩ := BrPGfPowers.isLog_ex b hb b0
        exact ⟨_, _, fun w => log_q b m w hb b0 hm⟩
    exact (walk00 a b c _ _ _ _ _ _ _ _ _ _ m f w ⟨fun w => mul_q a b w ha hb⟩ ⟨fun w => mul_q b a w hb ha⟩ ⟨fun w => mul_q b c w hb hc⟩ ⟨fun w => mul_q _ _ w ha h2⟩ ⟨fun w => mul_q _ _ w h1 hc⟩ ⟨fun w => add_q _ _ w hb hc⟩ ⟨fun w => mul_q _ _ w ha h4⟩ ⟨fun w => mul_q _ _ w ha hc⟩ ⟨fun w => add_q _ _ w h1 h3⟩ ⟨M8⟩
      (pos_bne x1) (pos_bne x2) (pos_bne x3) (pos_bne x4) ⟨V⟩ ⟨L1⟩ ⟨L2⟩ (by rw [beq_iff_eq]; omega) (by rw [bne_eq_false_iff_eq]; omega)).mono fun _ _ h => ⟨h.1, h.2.below⟩
  · obtain ⟨k, hk⟩ := BrPGfPowers.isLog_ex a ha a0
    have M9 := fun w => mul_q a (Math.inv a) w ha (Math.inv_lt ha)
    rw [Math.mul_inv ha a0] at M9
    by_cases b0 : b = 0
    · have L2 : ∀ w, Calls Try.prog 22 #[.int .u8 (b : Int)] w fun e w' => e = .returned (.tuple #[.int .i64 0, .int .i64 3]) ∧ Drawn0 w w' := by rw [b0]; exact log_q0
      exact (walk10 a b c _ _ _ _ _ _ _ _ _ _ (Math.inv a) k w ⟨fun w => mul_q a b w ha hb⟩ ⟨fun w => mul_q b a w hb ha⟩ ⟨fun w => mul_q b c w hb hc⟩ ⟨fun w => mul_q _ _ w ha h2⟩ ⟨fun w => mul_q _ _ w h1 hc⟩ ⟨fun w => add_q _ _ w hb hc⟩ ⟨fun w => mul_q _ _ w ha h4⟩ ⟨fun w => mul_q _ _ w ha hc⟩ ⟨fun w => add_q _ _ w h1 h3⟩ ⟨M8⟩
        (pos_bne x1) (pos_bne x2) (pos_bne x3) (pos_bne x4) ⟨fun w => inv_q a w ha a0⟩ ⟨M9⟩ ⟨fun w => log_q a k w ha a0 hk⟩ ⟨L2⟩ (by rw [beq_eq_false_iff_ne]; omega) (by rw [bne_iff_ne]; omega)).mono fun _ _ h => ⟨h.1, h.2.below⟩
    · obtain ⟨m, hm⟩ := BrPGfPowers.isLog_ex b hb b0
      have k254 := hk.1
      have m254 := hm.1
      have E1 := fun w => exp_q ((k : Int) + (m : Int)) w
      have E2 := fun w => exp_q (k : Int) w
      have E3 := fun w => exp_q (-(k : Int)) w
      have r1 : BrPGfPowers.rnd ((k : Int) + (m : Int)) = (k + m) % 255 := by unfold BrPGfPowers.rnd; omega
      have r2 : BrPGfPowers.rnd (k : Int) = k := by unfold BrPGfPowers.rnd; omega
      have r3 : BrPGfPowers.rnd (-(k : Int)) = (255 - k) % 255 := by unfold BrPGfPowers.rnd; omega
      rw [r1, ← Math.e_mod, Math.e_add, hk.2.1, hm.2.1] at E1
      rw [r2, hk.2.1] at E2
      rw [r3, ← Math.e_mod, ← Math.inv_e k (by omega), hk.2.1] at E3
      exact (walk11 a b c _ _ _ _ _ _ _ _ _ _ (Math.inv a) k m w ⟨fun w => mul_q a b w ha hb⟩ ⟨fun w => mul_q b a w hb ha⟩ ⟨fun w => mul_q b c w hb hc⟩ ⟨fun w => mul_q _ _ w ha h2⟩ ⟨fun w => mul_q _ _ w h1 hc⟩ ⟨fun w => add_q _ _ w hb hc⟩ ⟨fun w => mul_q _ _ w ha h4⟩ ⟨fun w => mul_q _ _ w ha hc⟩ ⟨fun w => add_q _ _ w h1 h3⟩ ⟨M8⟩
        (pos_bne x1) (pos_bne x2) (pos_bne x3) (pos_bne x4) ⟨fun w => inv_q a w ha a0⟩ ⟨M9⟩ ⟨fun w => log_q a k w ha a0 hk⟩ ⟨fun w => log_q b m w hb b0 hm⟩ ⟨E1⟩ ⟨E2⟩ ⟨E3⟩ (by rw [beq_eq_false_iff_ne]; omega) (by rw [bne_iff_ne]; omega) (by omega) (by omega)).mono fun _ _ h => ⟨h.1, h.2.below⟩

theorem walk_int (a0 a1 a2 : Int) (w : World) (w0 : (Lit.int .u8 a0).wf = true) (w1 : (Lit.int .u8 a1).wf = true) (w2 : (Lit.int .u8 a2).wf = true) :
    Calls Try.prog 7 #[.int .u8 a0, .int .u8 a1, .int .u8 a2] w fun e' w' => e' = .returned (.bool true) ∧ Below w.heap.size w w' := by
  obtain ⟨a, rfl, ha⟩ := wf_u8 w0
  obtain ⟨b, rfl, hb⟩ := wf_u8 w1
  obtain ⟨c, rfl, hc⟩ := wf_u8 w2
  exact walk a b c w ha hb hc

end Go.Proofs.Ytpmhoocigdkhbaa.WalkLaws
