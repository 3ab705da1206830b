/- The walk of GfCircle over the contracts of the functions that it calls: the law's body, once for the element 0 and once for the others; and that it answers true. -/
import Derived.Test.YtpmhoocigdkhbaaPGfPowersx2
import Derived.Test.YtpmhoocigdkhbaaBrPowers
namespace Go.Proofs.Ytpmhoocigdkhbaa.WalkCircle
open Go.RowKit Go.Proofs.Ytpmhoocigdkhbaa.PGfPowers Go.Proofs.YtpmhoocigdkhbaaW.PrintWords Go.Proofs.YtpmhoocigdkhbaaW.PrintLast Go.Proofs.YtpmhoocigdkhbaaW.PrintMore Go.Proofs.Ytpmhoocigdkhbaa.Bridge Go.Proofs.Ytpmhoocigdkhbaa.BrPGfPowers

theorem mul_q (a b : Nat) (w : World) (ha : a < 256) (hb : b < 256) : Calls Try.prog 16 #[.int .u8 (a : Int), .int .u8 (b : Int)] w fun e w' => e = .returned (.int .u8 ((Math.mul a b : Nat) : Int)) ∧ Drawn0 w w' := by
  obtain ⟨k, hk⟩ := (mul_ev a b ha hb).rounds
  exact gf_Mul.calls k _ _ _ w hk
theorem awake_q (w : World) : Calls Try.prog 14 #[] w fun e w' => e = .returned (.bool true) ∧ Drawn0 w w' := by
  obtain ⟨k, hk⟩ := awake_ev.rounds
  exact ravelinlaw01_awake.calls k _ w hk
theorem exp_q (n : Int) (w : World) : Calls Try.prog 21 #[.int .i64 n] w fun e w' => e = .returned (.int .u8 ((Math.e (rnd n) : Nat) : Int)) ∧ Drawn0 w w' := by
  obtain ⟨k, hk⟩ := (exp_ev n).rounds
  exact gf_Exp.calls k _ _ w hk
theorem pow_q (a : Nat) (n : Int) (x : Nat) (f : Int) (w : World) (ha : a < 256) (h : powR a n = ((x : Int), f)) : Calls Try.prog 20 #[.int .u8 (a : Int), .int .i64 n] w fun e w' => e = .returned (.tuple #[.int .u8 (x : Int), .int .i64 f]) ∧ Drawn0 w w' := by
  obtain ⟨k, hk⟩ := (pow_ev a n ha).rounds
  exact gf_Pow.calls k _ _ _ _ w (hk.trans (by rw [h]))

set_option maxRecDepth 100000 in
theorem walk0 (a x y z v p1 p2 p3 p4 p5 : Nat) (m n e f g h : Int) (w : World)
    (C1 : Aside0 (∀ w, Calls Try.prog 20 #[.int .u8 (a : Int), .int .i64 m] w fun e' w' => e' = .returned (.tuple #[.int .u8 (x : Int), .int .i64 e]) ∧ Drawn0 w w'))
    (C2 : Aside0 (∀ w, Calls Try.prog 20 #[.int .u8 (a : Int), .int .i64 n] w fun e' w' => e' = .returned (.tuple #[.int .u8 (y : Int), .int .i64 f]) ∧ Drawn0 w w'))
    (C3 : Aside0 (∀ w, Calls Try.prog 20 #[.int .u8 (a : Int), .int .i64 (m + n)] w fun e' w' => e' = .returned (.tuple #[.int .u8 (z : Int), .int .i64 g]) ∧ Drawn0 w w'))
    (C4 : Aside0 (∀ w, Calls Try.prog 20 #[.int .u8 (a : Int), .int .i64 (m + 255)] w fun e' w' => e' = .returned (.tuple #[.int .u8 (v : Int), .int .i64 h]) ∧ Drawn0 w w'))
    (E1 : Aside0 (∀ w, Calls Try.prog 21 #[.int .i64 (m + 255)] w fun e' w' => e' = .returned (.int .u8 (p1 : Int)) ∧ Drawn0 w w'))
    (E2 : Aside0 (∀ w, Calls Try.prog 21 #[.int .i64 m] w fun e' w' => e' = .returned (.int .u8 (p2 : Int)) ∧ Drawn0 w w'))
    (E3 : Aside0 (∀ w, Calls Try.prog 21 #[.int .i64 n] w fun e' w' => e' = .returned (.int .u8 (p3 : Int)) ∧ Drawn0 w w'))
    (E4 : Aside0 (∀ w, Calls Try.prog 21 #[.int .i64 (m + n)] w fun e' w' => e' = .returned (.int .u8 (p4 : Int)) ∧ Drawn0 w w'))
    (M1 : Aside0 (∀ w, Calls Try.prog 16 #[.int .u8 (p2 : Int), .int .u8 (p3 : Int)] w fun e' w' => e' = .returned (.int .u8 (p5 : Int)) ∧ Drawn0 w w'))
    (b1 : ((p1 : Int) != (p2 : Int)) = false) (b2 : ((p5 : Int) != (p4 : Int)) = false)
    (hm0 : -2147483648 ≤ m) (hm1 : m ≤ 2147483647) (hn0 : -2147483648 ≤ n) (hn1 : n ≤ 2147483647)
    (b3 : ((a : Int) == 0) = true) (b4 : ((e != 0) == decide (m < 0)) = true) (b5 : ((f != 0) == decide (n < 0)) = true) :
    Calls Try.prog 5 #[.int .u8 (a : Int), .int .i32 m, .int .i32 n] w fun e' w' => e' = .returned (.bool true) ∧ Drawn0 w w' := by
  go_enter Try.func5, Try.ntmps5
  go_wp2_with (fail)
  refine (C1.out _).mono ?_; rintro e' w' ⟨rfl, ⟨n1, rfl⟩⟩
  go_wp2_with (fail)
  refine (C2.out _).mono ?_; rintro e' w' ⟨rfl, ⟨n2, rfl⟩⟩
  go_wp2_with (fail)
  refine (C3.out _).mono ?_; rintro e' w' ⟨rfl, ⟨n3, rfl⟩⟩
  go_wp2_with (fail)
  refine (C4.out _).mono ?_; rintro e' w' ⟨rfl, ⟨n4, rfl⟩⟩
  go_wp2_with (fail)
  refine (awake_q _).mono ?_; rintro e' w' ⟨rfl, ⟨n5, rfl⟩⟩
  go_wp2_with (fail)
  refine (E1.out _).mono ?_; rintro e' w' ⟨rfl, ⟨n6, rfl⟩⟩
  go_wp2_with (fail)
  refine (E2.out _).mono ?_; rintro e' w' ⟨rfl, ⟨n7, rfl⟩⟩
  go_wp2_with (fail)
  refine (E2.out _).mono ?_; rintro e' w' ⟨rfl, ⟨n8, rfl⟩⟩
  go_wp2_with (fail)
  refine (E3.out _).mono ?_; rintro e' w' ⟨rfl, ⟨n9, rfl⟩⟩
  go_wp2_with (fail)
  refine (M1.out _).mono ?_; rintro e' w' ⟨rfl, ⟨n10, rfl⟩⟩
  go_wp2_with (fail)
  refine (E4.out _).mono ?_; rintro e' w' ⟨rfl, ⟨n11, rfl⟩⟩
  go_wp2_with (fail)
  go_ret
  exact ⟨rfl, ⟨⟨_, rfl⟩⟩⟩

set_option maxRecDepth 100000 in
theorem walk1 (a x y z v p1 p2 p3 p4 p5 : Nat) (m n e f g h : Int) (w : World)
    (C1 : Aside0 (∀ w, Calls Try.prog 20 #[.int .u8 (a : Int), .int .i64 m] w fun e' w' => e' = .returned (.tuple #[.int .u8 (x : Int), .int .i64 e]) ∧ Drawn0 w w'))
    (C2 : Aside0 (∀ w, Calls Try.prog 20 #[.int .u8 (a : Int), .int .i64 n] w fun e' w' => e' = .returned (.tuple #[.int .u8 (y : Int), .int .i64 f]) ∧ Drawn0 w w'))
    (C3 : Aside0 (∀ w, Calls Try.prog 20 #[.int .u8 (a : Int), .int .i64 (m + n)] w fun e' w' => e' = .returned (.tuple #[.int .u8 (z : Int), .int .i64 g]) ∧ Drawn0 w w'))
    (C4 : Aside0 (∀ w, Calls Try.prog 20 #[.int .u8 (a : Int), .int .i64 (m + 255)] w fun e' w' => e' = .returned (.tuple #[.int .u8 (v : Int), .int .i64 h]) ∧ Drawn0 w w'))
    (E1 : Aside0 (∀ w, Calls Try.prog 21 #[.int .i64 (m + 255)] w fun e' w' => e' = .returned (.int .u8 (p1 : Int)) ∧ Drawn0 w w'))
    (E2 : Aside0 (∀ w, Calls Try.prog 21 #[.int .i64 m] w fun e' w' => e' = .returned (.int .u8 (p2 : Int)) ∧ Drawn0 w w'))
    (E3 : Aside0 (∀ w, Calls Try.prog 21 #[.int .i64 n] w fun e' w' => e' = .returned (.int .u8 (p3 : Int)) ∧ Drawn0 w w'))
    (E4 : Aside0 (∀ w, Calls Try.prog 21 #[.int .i64 (m + n)] w fun e' w' => e' = .returned (.int .u8 (p4 : Int)) ∧ Drawn0 w w'))
    (M1 : Aside0 (∀ w, Calls Try.prog 16 #[.int .u8 (p2 : Int), .int .u8 (p3 : Int)] w fun e' w' => e' = .returned (.int .u8 (p5 : Int)) ∧ Drawn0 w w'))
    (b1 : ((p1 : Int) != (p2 : Int)) = false) (b2 : ((p5 : Int) != (p4 : Int)) = false)
    (hm0 : -2147483648 ≤ m) (hm1 : m ≤ 2147483647) (hn0 : -2147483648 ≤ n) (hn1 : n ≤ 2147483647)
    (M2 : Aside0 (∀ w, Calls Try.prog 16 #[.int .u8 (x : Int), .int .u8 (y : Int)] w fun e' w' => e' = .returned (.int .u8 (z : Int)) ∧ Drawn0 w w'))
    (b3 : ((a : Int) == 0) = false) (b4 : (e == 0) = true) (b5 : (f == 0) = true) (b6 : (g == 0) = true) (b7 : (h == 0) = true) (b8 : ((v : Int) == (x : Int)) = true) :
    Calls Try.prog 5 #[.int .u8 (a : Int), .int .i32 m, .int .i32 n] w fun e' w' => e' = .returned (.bool true) ∧ Drawn0 w w' := by
  go_enter Try.func5, Try.ntmps5
  go_wp2_with (fail)
  refine (C1.out _).mono ?_; rintro e' w' ⟨rfl, ⟨n1, rfl⟩⟩
  go_wp2_with (fail)
  refine (C2.out _).mono ?_; rintro e' w' ⟨rfl, ⟨n2, rfl⟩⟩
  go_wp2_with (fail)
  refine (C3.out _).mono ?_; rintro e' w' ⟨rfl, ⟨n3, rfl⟩⟩
  go_wp2_with (fail)
  refine (C4.out _).mono ?_; rintro e' w' ⟨rfl, ⟨n4, rfl⟩⟩
  go_wp2_with (fail)
  refine (awake_q _).mono ?_; rintro e' w' ⟨rfl, ⟨n5, rfl⟩⟩
  go_wp2_with (fail)
  refine (E1.out _).mono ?_; rintro e' w' ⟨rfl, ⟨n6, rfl⟩⟩
  go_wp2_with (fail)
  refine (E2.out _).mono ?_; rintro e' w' ⟨rfl, ⟨n7, rfl⟩⟩
  go_wp2_with (fail)
  refine (E2.out _).mono ?_; rintro e' w' ⟨rfl, ⟨n8, rfl⟩⟩
  go_wp2_with (fail)
  refine (E3.out _).mono ?_; rintro e' w' ⟨rfl, ⟨n9, rfl⟩⟩
  go_wp2_with (fail)
  refine (M1.out _).mono ?_; rintro e' w' ⟨rfl, ⟨n10, rfl⟩⟩
  go_wp2_with (fail)
  refine (E4.out _).mono ?_; rintro e' w' ⟨rfl, ⟨n11, rfl⟩⟩
  go_wp2_with (fail)
  refine (M2.out _).mono ?_; rintro e' w' ⟨rfl, ⟨n12, rfl⟩⟩
  go_wp2_with (fail)
  go_ret
  exact ⟨rfl, ⟨⟨_, rfl⟩⟩⟩

theorem rnd_add (m n : Int) : rnd (m + n) = (rnd m + rnd n) % 255 := by unfold rnd; omega
theorem rnd_255 (m : Int) : rnd (m + 255) = rnd m := by unfold rnd; omega
theorem powR_ne (a : Nat) (n : Int) (h0 : a ≠ 0) : powR a n = (((Math.pw a (rnd n) : Nat) : Int), 0) := by
  unfold powR
  by_cases h : n = 0
  · subst h; rw [if_pos rfl]; rfl
  · rw [if_neg h, if_neg h0]
theorem pos_bne {a b : Nat} (h : a = b) : ((a : Int) != (b : Int)) = false := by rw [bne_eq_false_iff_eq, h]
theorem powR_zero (n : Int) : ∃ (x : Nat) (f : Int), powR 0 n = ((x : Int), f) ∧ ((f != 0) == decide (n < 0)) = true := by
  unfold powR
  by_cases h : n = 0
  · subst h; exact ⟨1, 0, rfl, rfl⟩
  · by_cases h1 : n < 0
    · exact ⟨0, 3, by rw [if_neg h, if_pos rfl, if_pos h1]; rfl, by rw [decide_eq_true h1]; rfl⟩
    · exact ⟨0, 0, by rw [if_neg h, if_pos rfl, if_neg h1]; rfl, by rw [decide_eq_false h1]; rfl⟩

/-- GfCircle answers true, whatever comes in. -/
theorem walk (a : Nat) (m n : Int) (w : World) (ha : a < 256) (hm0 : -2147483648 ≤ m) (hm1 : m ≤ 2147483647) (hn0 : -2147483648 ≤ n) (hn1 : n ≤ 2147483647) :
    Calls Try.prog 5 #[.int .u8 (a : Int), .int .i32 m, .int .i32 n] w fun e' w' => e' = .returned (.bool true) ∧ Below w.heap.size w w' := by
  have e1 : Math.e (rnd (m + 255)) = Math.e (rnd m) := by rw [rnd_255]
  have e2 : Math.mul (Math.e (rnd m)) (Math.e (rnd n)) = Math.e (rnd (m + n)) := by rw [rnd_add, ← Math.e_add, ← Math.e_mod]
  by_cases h0 : a = 0
  · subst h0
    obtain ⟨x, e, hx, be⟩ := powR_zero m
    obtain ⟨y, f, hy, bf⟩ := powR_zero n
    obtain ⟨z, g, hz, _⟩ := powR_zero (m + n)
    obtain ⟨v, h, hv, _⟩ := powR_zero (m + 255)
    exact (walk0 0 x y z v _ _ _ _ _ m n e f g h w ⟨fun w => pow_q 0 m x e w (by omega) hx⟩ ⟨fun w => pow_q 0 n y f w (by omega) hy⟩ ⟨fun w => pow_q 0 _ z g w (by omega) hz⟩ ⟨fun w => pow_q 0 _ v h w (by omega) hv⟩
      ⟨exp_q _⟩ ⟨exp_q _⟩ ⟨exp_q _⟩ ⟨exp_q _⟩ ⟨fun w => mul_q _ _ w (Math.e_lt _) (Math.e_lt _)⟩ (pos_bne e1) (pos_bne e2) hm0 hm1 hn0 hn1 rfl be bf).mono fun _ _ h => ⟨h.1, h.2.below⟩
  · have hp : ∀ k, Math.pw a k < 256 := Math.pw_lt a ha
    have hz : Math.mul (Math.pw a (rnd m)) (Math.pw a (rnd n)) = Math.pw a (rnd (m + n)) := by rw [rnd_add, ← Math.pw_add a ha, ← Math.pw_mod a ha h0]
    have M2 := fun w => mul_q (Math.pw a (rnd m)) (Math.pw a (rnd n)) w (hp _) (hp _)
    rw [hz] at M2
    have hv : Math.pw a (rnd (m + 255)) = Math.pw a (rnd m) := by rw [rnd_255]
    exact (walk1 a _ _ _ _ _ _ _ _ _ m n 0 0 0 0 w ⟨fun w => pow_q a m _ 0 w ha (powR_ne a m h0)⟩ ⟨fun w => pow_q a n _ 0 w ha (powR_ne a n h0)⟩ ⟨fun w => pow_q a _ _ 0 w ha (powR_ne a _ h0)⟩ ⟨fun w => pow_q a _ _ 0 w ha (powR_ne a _ h0)⟩
      ⟨exp_q _⟩ ⟨exp_q _⟩ ⟨exp_q _⟩ ⟨exp_q _⟩ ⟨fun w => mul_q _ _ w (Math.e_lt _) (Math.e_lt _)⟩ (pos_bne e1) (pos_bne e2) hm0 hm1 hn0 hn1 ⟨M2⟩ (by rw [beq_eq_false_iff_ne]; omega) rfl rfl rfl rfl (by rw [hv]; exact beq_self_eq_true _)).mono fun _ _ h => ⟨h.1, h.2.below⟩

theorem wf_i32 {a : Int} (h : (Lit.int .i32 a).wf = true) : -2147483648 ≤ a ∧ a ≤ 2147483647 := by
  simp [Lit.wf] at h
  have e0 : IntKind.i32.min = -2147483648 := by decide
  have e1 : IntKind.i32.max = 2147483647 := by decide
  omega
theorem walk_int (a0 m n : Int) (w : World) (w0 : (Lit.int .u8 a0).wf = true) (w1 : (Lit.int .i32 m).wf = true) (w2 : (Lit.int .i32 n).wf = true) :
    Calls Try.prog 5 #[.int .u8 a0, .int .i32 m, .int .i32 n] w fun e' w' => e' = .returned (.bool true) ∧ Below w.heap.size w w' := by
  obtain ⟨a, rfl, ha⟩ := wf_u8 w0
  exact walk a m n w ha (wf_i32 w1).1 (wf_i32 w1).2 (wf_i32 w2).1 (wf_i32 w2).2

end Go.Proofs.Ytpmhoocigdkhbaa.WalkCircle
