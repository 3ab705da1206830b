-- PRINTED BY print.sh 35421559b90ae4d0a3588c463048766b98c2df88dd9212a6774a882060cdf62d: not written by this session
import Derived.Test.YtpmhoocigdkhbaaPGfSolvesx0
import Derived.Test.YtpmhoocigdkhbaaPGfSolvesx1
namespace Go.Proofs.Ytpmhoocigdkhbaa.PGfSolves
open Go.RowKit Go.Proofs.YtpmhoocigdkhbaaW.PrintWords Go.Proofs.YtpmhoocigdkhbaaW.PrintLast Go.Proofs.YtpmhoocigdkhbaaW.PrintMore
attribute [local go_sem] max2_int min2_int max_two min_two max_three min_three max_four min_four   -- for this text's walks alone
set_option linter.unusedVariables false
set_option linter.unusedSimpArgs false

/-! ### ravelinref01_Solve: function 19 -/
mutual
def ravelinref01_Solve.l0 : Nat → Int → Int → Int → Int → Int → Int → Int → Option (Int × Int × Int)
  | 0, _, _, _, _, _, _, _ => none
  | k + 1, x0, x1, x2, x3, x4, x5, x15 => if x15 < 256 then ((ravelinref01_Mul.f k x0 ((x15) % 256)).bind fun t120 => ((ravelinref01_Div.f k (Go.bits .xor .u8 x4 t120) x1).bind fun bt121 => (if bt121.2 = 0 then (ravelinref01_Solve.j1 k x0 x1 x2 x3 x4 x5 x15 ((x15) % 256) bt121.1) else ((ravelinref01_Mul.f k x2 ((x15) % 256)).bind fun t123 => ((ravelinref01_Div.f k (Go.bits .xor .u8 x5 t123) x3).bind fun bt124 => (ravelinref01_Solve.j1 k x0 x1 x2 x3 x4 x5 x15 ((x15) % 256) bt124.1)))))) else (some (0, 0, 3))
def ravelinref01_Solve.j1 : Nat → Int → Int → Int → Int → Int → Int → Int → Int → Int → Option (Int × Int × Int)
  | 0, _, _, _, _, _, _, _, _, _ => none
  | k + 1, x0, x1, x2, x3, x4, x5, x15, x16, x17 => (ravelinref01_Mul.f k x0 x16).bind fun t126 => ((ravelinref01_Mul.f k x1 x17).bind fun t127 => (if (Go.bits .xor .u8 t126 t127) = x4 then ((ravelinref01_Mul.f k x2 x16).bind fun t128 => ((ravelinref01_Mul.f k x3 x17).bind fun t129 => (if (Go.bits .xor .u8 t128 t129) = x5 then (some (x16, x17, 0)) else (ravelinref01_Solve.l0 k x0 x1 x2 x3 x4 x5 (wrap64 (x15 + 1)))))) else (ravelinref01_Solve.l0 k x0 x1 x2 x3 x4 x5 (wrap64 (x15 + 1)))))
end
def ravelinref01_Solve.f (k : Nat) (a0 : Int) (a1 : Int) (a2 : Int) (a3 : Int) (a4 : Int) (a5 : Int) : Option (Int × Int × Int) := (ravelinref01_Mul.f k a0 a3).bind fun t118 => ((ravelinref01_Mul.f k a1 a2).bind fun t119 => (if t118 = t119 then (some (0, 0, 3)) else (ravelinref01_Solve.l0 k a0 a1 a2 a3 a4 a5 0)))
theorem ravelinref01_Solve.mono_l : ∀ k, (∀ y0 y1 y2 y3 y4 y5 y6, LeO (ravelinref01_Solve.l0 k y0 y1 y2 y3 y4 y5 y6) (ravelinref01_Solve.l0 (k + 1) y0 y1 y2 y3 y4 y5 y6)) ∧ (∀ y0 y1 y2 y3 y4 y5 y6 y7 y8, LeO (ravelinref01_Solve.j1 k y0 y1 y2 y3 y4 y5 y6 y7 y8) (ravelinref01_Solve.j1 (k + 1) y0 y1 y2 y3 y4 y5 y6 y7 y8))
  | 0 => ⟨fun _ _ _ _ _ _ _ r h => by simp [ravelinref01_Solve.l0] at h, fun _ _ _ _ _ _ _ _ _ r h => by simp [ravelinref01_Solve.j1] at h⟩
  | k + 1 => by
    obtain ⟨ih0, ih1⟩ := ravelinref01_Solve.mono_l k
    refine ⟨?_, ?_⟩
    · intro y0 y1 y2 y3 y4 y5 y6
      unfold ravelinref01_Solve.l0
      repeat' first
      | (with_reducible exact ih0 _ _ _ _ _ _ _)
      | (with_reducible exact ih1 _ _ _ _ _ _ _ _ _)
      | (with_reducible exact ravelinref01_Div.mono _ _ _)
      | (with_reducible exact ravelinref01_Mul.mono _ _ _)
      | (with_reducible exact LeO.refl _)
      | (with_reducible exact LeO.none _)
      | (with_reducible refine LeO.ite ?_ ?_)
      | (with_reducible refine LeO.bind ?_ (fun _ => ?_))
      | exact ih0 _ _ _ _ _ _ _
      | exact ih1 _ _ _ _ _ _ _ _ _
      | exact ravelinref01_Div.mono _ _ _
      | exact ravelinref01_Mul.mono _ _ _
      | exact LeO.none _
      | refine LeO.ite ?_ ?_
      | refine LeO.bind ?_ (fun _ => ?_)
    · intro y0 y1 y2 y3 y4 y5 y6 y7 y8
      unfold ravelinref01_Solve.j1
      repeat' first
      | (with_reducible exact ih0 _ _ _ _ _ _ _)
      | (with_reducible exact ih1 _ _ _ _ _ _ _ _ _)
      | (with_reducible exact ravelinref01_Div.mono _ _ _)
      | (with_reducible exact ravelinref01_Mul.mono _ _ _)
      | (with_reducible exact LeO.refl _)
      | (with_reducible exact LeO.none _)
      | (with_reducible refine LeO.ite ?_ ?_)
      | (with_reducible refine LeO.bind ?_ (fun _ => ?_))
      | exact ih0 _ _ _ _ _ _ _
      | exact ih1 _ _ _ _ _ _ _ _ _
      | exact ravelinref01_Div.mono _ _ _
      | exact ravelinref01_Mul.mono _ _ _
      | exact LeO.none _
      | refine LeO.ite ?_ ?_
      | refine LeO.bind ?_ (fun _ => ?_)
theorem ravelinref01_Solve.mono : ∀ a0 a1 a2 a3 a4 a5 k, LeO (ravelinref01_Solve.f k a0 a1 a2 a3 a4 a5) (ravelinref01_Solve.f (k + 1) a0 a1 a2 a3 a4 a5) := by
  intro a0 a1 a2 a3 a4 a5 k
  obtain ⟨ih0, ih1⟩ := ravelinref01_Solve.mono_l k
  unfold ravelinref01_Solve.f
  repeat' first
      | (with_reducible exact ih0 _ _ _ _ _ _ _)
      | (with_reducible exact ih1 _ _ _ _ _ _ _ _ _)
      | (with_reducible exact ravelinref01_Div.mono _ _ _)
      | (with_reducible exact ravelinref01_Mul.mono _ _ _)
      | (with_reducible exact LeO.refl _)
      | (with_reducible exact LeO.none _)
      | (with_reducible refine LeO.ite ?_ ?_)
      | (with_reducible refine LeO.bind ?_ (fun _ => ?_))
      | exact ih0 _ _ _ _ _ _ _
      | exact ih1 _ _ _ _ _ _ _ _ _
      | exact ravelinref01_Div.mono _ _ _
      | exact ravelinref01_Mul.mono _ _ _
      | exact LeO.none _
      | refine LeO.ite ?_ ?_
      | refine LeO.bind ?_ (fun _ => ?_)
set_option maxHeartbeats 8000000 in
set_option maxRecDepth 100000 in
theorem ravelinref01_Solve.calls (k : Nat) (a0 : Int) (a1 : Int) (a2 : Int) (a3 : Int) (a4 : Int) (a5 : Int) (r1 : Int) (r2 : Int) (r3 : Int) (w : World) (h : ravelinref01_Solve.f k a0 a1 a2 a3 a4 a5 = some (r1, r2, r3)) :
    Calls Try.prog 19 #[.int .u8 a0, .int .u8 a1, .int .u8 a2, .int .u8 a3, .int .u8 a4, .int .u8 a5] w fun e w' => e = .returned (.tuple #[.int .u8 r1, .int .u8 r2, .int .i64 r3]) ∧ Drawn0 w w' := by
  have H : ((ravelinref01_Mul.f k a0 a3).bind fun t118 => ((ravelinref01_Mul.f k a1 a2).bind fun t119 => (if t118 = t119 then (some (0, 0, 3)) else (ravelinref01_Solve.l0 k a0 a1 a2 a3 a4 a5 0)))) = some (r1, r2, r3) := h
  clear h
  replace H := Option.bind_eq_some_iff.mp H
  obtain ⟨t118, A70, H⟩ := H
  replace H : ((ravelinref01_Mul.f k a1 a2).bind fun t119 => (if t118 = t119 then (some (0, 0, 3)) else (ravelinref01_Solve.l0 k a0 a1 a2 a3 a4 a5 0))) = some (r1, r2, r3) := H
  have A7 := Aside0.mk A70
  clear A70
  replace H := Option.bind_eq_some_iff.mp H
  obtain ⟨t119, A80, H⟩ := H
  replace H : (if t118 = t119 then (some (0, 0, 3)) else (ravelinref01_Solve.l0 k a0 a1 a2 a3 a4 a5 0)) = some (r1, r2, r3) := H
  have A8 := Aside0.mk A80
  clear A80
  by_cases c9 : t118 = t119
  · rw [if_pos c9] at H
    have c9b0 : (t118 == t119) = true := beq_iff_eq.mpr c9
    have c9b1 : (t118 != t119) = false := bne_eq_false_iff_eq.mpr c9
    clear c9
    simp only [Option.some.injEq, Prod.mk.injEq] at H
    obtain ⟨rfl, rfl, rfl⟩ := H
    go_enter Try.func19, Try.ntmps19
    go_wp2_with (first | ((with_reducible refine gate_callee (f := 17) rfl ?_); refine goesL_ (some 21) rfl rfl Try.func17 (by kernel_rfl) rfl #[.int .u8 a0, .int .u8 a3] rfl (by (try simp only [List.map_toArray, List.map_cons, List.map_nil]); first | done | rfl | (simp only [List.length_drop, List.length_take]; rfl)) ?_; (with_reducible refine (ravelinref01_Mul.calls k a0 a3 t118 _ A7.out).mono ?_); rintro e w' ⟨rfl, ⟨nd, rfl⟩⟩; refine ⟨_, rfl, ?_⟩) | ((with_reducible refine gate_callee (f := 17) rfl ?_); refine goesL_ (some 24) rfl rfl Try.func17 (by kernel_rfl) rfl #[.int .u8 a1, .int .u8 a2] rfl (by (try simp only [List.map_toArray, List.map_cons, List.map_nil]); first | done | rfl | (simp only [List.length_drop, List.length_take]; rfl)) ?_; (with_reducible refine (ravelinref01_Mul.calls k a1 a2 t119 _ A8.out).mono ?_); rintro e w' ⟨rfl, ⟨nd, rfl⟩⟩; refine ⟨_, rfl, ?_⟩))
    go_ret3
    exact ⟨by first | rfl | (simp; done) | (simp [*]; done), by repeat (first | exact Drawn0.refl _ | apply Drawn0.step)⟩
  · rw [if_neg c9] at H
    have c9b0 : (t118 == t119) = false := beq_eq_false_iff_ne.mpr c9
    have c9b1 : (t118 != t119) = true := bne_iff_ne.mpr c9
    have H' := Aside0.mk H
    clear H
    go_enter Try.func19, Try.ntmps19
    go_wp2_with (first | ((with_reducible refine gate_callee (f := 17) rfl ?_); refine goesL_ (some 21) rfl rfl Try.func17 (by kernel_rfl) rfl #[.int .u8 a0, .int .u8 a3] rfl (by (try simp only [List.map_toArray, List.map_cons, List.map_nil]); first | done | rfl | (simp only [List.length_drop, List.length_take]; rfl)) ?_; (with_reducible refine (ravelinref01_Mul.calls k a0 a3 t118 _ A7.out).mono ?_); rintro e w' ⟨rfl, ⟨nd, rfl⟩⟩; refine ⟨_, rfl, ?_⟩) | ((with_reducible refine gate_callee (f := 17) rfl ?_); refine goesL_ (some 24) rfl rfl Try.func17 (by kernel_rfl) rfl #[.int .u8 a1, .int .u8 a2] rfl (by (try simp only [List.map_toArray, List.map_cons, List.map_nil]); first | done | rfl | (simp only [List.length_drop, List.length_take]; rfl)) ?_; (with_reducible refine (ravelinref01_Mul.calls k a1 a2 t119 _ A8.out).mono ?_); rintro e w' ⟨rfl, ⟨nd, rfl⟩⟩; refine ⟨_, rfl, ?_⟩))
    go_loopg [15] k (fun kq v15 w' => ∃ (x15_1 : Int), v15 = .int .i64 x15_1 ∧ Aside0 (ravelinref01_Solve.l0 kq a0 a1 a2 a3 a4 a5 x15_1 = some (r1, r2, r3)) ∧ Aside0 (kq ≤ k) ∧ Drawn0 w w')
    case atStart => exact ⟨(0), (by first | rfl | (simp; done) | (simp [*]; done)), H', ⟨Nat.le_refl _⟩, by repeat (first | exact Drawn0.refl _ | apply Drawn0.step)⟩
    case round =>
      clear H'
      try clear c1
      try clear p2
      try clear c9
      try clear c9b0
      try clear c9b1
      obtain ⟨x15_1, rfl, HA, HK1, ⟨m1, rfl⟩⟩ := hrel
      cases gk with
      | zero => exact absurd HA.out (by simp [ravelinref01_Solve.l0])
      | succ k1 =>
        have H := HA.out
        clear HA
        simp only [ravelinref01_Solve.l0] at H
        by_cases c10 : x15_1 < 256
        · rw [if_pos c10] at H
          have c10b0 : decide (x15_1 < 256) = true := decide_eq_true c10
          clear c10
          replace H := Option.bind_eq_some_iff.mp H
          obtain ⟨t120, A110, H⟩ := H
          replace H : ((ravelinref01_Div.f k1 (Go.bits .xor .u8 a4 t120) a1).bind fun bt121 => (if bt121.2 = 0 then (ravelinref01_Solve.j1 k1 a0 a1 a2 a3 a4 a5 x15_1 ((x15_1) % 256) bt121.1) else ((ravelinref01_Mul.f k1 a2 ((x15_1) % 256)).bind fun t123 => ((ravelinref01_Div.f k1 (Go.bits .xor .u8 a5 t123) a3).bind fun bt124 => (ravelinref01_Solve.j1 k1 a0 a1 a2 a3 a4 a5 x15_1 ((x15_1) % 256) bt124.1))))) = some (r1, r2, r3) := H
          have A11 := Aside0.mk A110
          clear A110
          replace H := Option.bind_eq_some_iff.mp H
          obtain ⟨⟨t121, t122⟩, A120, H⟩ := H
          replace H : (if t122 = 0 then (ravelinref01_Solve.j1 k1 a0 a1 a2 a3 a4 a5 x15_1 ((x15_1) % 256) t121) else ((ravelinref01_Mul.f k1 a2 ((x15_1) % 256)).bind fun t123 => ((ravelinref01_Div.f k1 (Go.bits .xor .u8 a5 t123) a3).bind fun bt124 => (ravelinref01_Solve.j1 k1 a0 a1 a2 a3 a4 a5 x15_1 ((x15_1) % 256) bt124.1)))) = some (r1, r2, r3) := H
          have A12 := Aside0.mk A120
          clear A120
          have HC13 := Aside0.mk H
          clear H
          go_upto_if 43 with (first | ((with_reducible refine gate_callee (f := 17) rfl ?_); refine goesL_ (some 36) rfl rfl Try.func17 (by kernel_rfl) rfl #[.int .u8 a0, .int .u8 ((x15_1) % 256)] rfl (by (try simp only [List.map_toArray, List.map_cons, List.map_nil]); first | done | rfl | (simp only [List.length_drop, List.length_take]; rfl)) ?_; (with_reducible refine (ravelinref01_Mul.calls k1 a0 ((x15_1) % 256) t120 _ A11.out).mono ?_); rintro e w' ⟨rfl, ⟨nd, rfl⟩⟩; refine ⟨_, rfl, ?_⟩) | ((with_reducible refine gate_callee (f := 13) rfl ?_); refine goesL_ (some 39) rfl rfl Try.func13 (by kernel_rfl) rfl #[.int .u8 (Go.bits .xor .u8 a4 t120), .int .u8 a1] rfl (by (try simp only [List.map_toArray, List.map_cons, List.map_nil]); first | done | rfl | (simp only [List.length_drop, List.length_take]; rfl)) ?_; (with_reducible refine (ravelinref01_Div.calls k1 (Go.bits .xor .u8 a4 t120) a1 t121 t122 _ A12.out).mono ?_); rintro e w' ⟨rfl, ⟨nd, rfl⟩⟩; refine ⟨_, rfl, ?_⟩))
          (try simp only [Act.put, List.setIfInBounds_toArray, List.set_cons_zero, List.set_cons_succ])
          go_cut [17] (fun v17 wc => ∃ (kq : Nat) (x17_12 : Int), v17 = .int .u8 x17_12 ∧ Aside0 (ravelinref01_Solve.j1 kq a0 a1 a2 a3 a4 a5 x15_1 ((x15_1) % 256) x17_12 = some (r1, r2, r3)) ∧ Aside0 (kq ≤ k1) ∧ Drawn0 w wc)
          case first =>
            have H := HC13.out
            clear HC13
            by_cases c14 : t122 = 0
            · rw [if_pos c14] at H
              have c14b0 : (t122 == 0) = true := beq_iff_eq.mpr c14
              have c14b1 : (t122 != 0) = false := bne_eq_false_iff_eq.mpr c14
              clear c14
              (first | rw [c14b0] | (simp only [i64_w, i32_w]; rw [c14b0]) | skip)
              have H' := Aside0.mk H
              clear H
              go_wp2
              go_meet
              case rel => exact ⟨_, (t121), (by first | rfl | (simp; done) | (simp [*]; done)), H', ⟨by have := HK1.out; first | omega | exact Nat.le_refl _⟩, by repeat (first | exact Drawn0.refl _ | apply Drawn0.step)⟩
            · rw [if_neg c14] at H
              have c14b0 : (t122 == 0) = false := beq_eq_false_iff_ne.mpr c14
              have c14b1 : (t122 != 0) = true := bne_iff_ne.mpr c14
              (first | rw [c14b0] | (simp only [i64_w, i32_w]; rw [c14b0]) | skip)
              replace H := Option.bind_eq_some_iff.mp H
              obtain ⟨t123, A150, H⟩ := H
              replace H : ((ravelinref01_Div.f k1 (Go.bits .xor .u8 a5 t123) a3).bind fun bt124 => (ravelinref01_Solve.j1 k1 a0 a1 a2 a3 a4 a5 x15_1 ((x15_1) % 256) bt124.1)) = some (r1, r2, r3) := H
              have A15 := Aside0.mk A150
              clear A150
              replace H := Option.bind_eq_some_iff.mp H
              obtain ⟨⟨t124, t125⟩, A160, H⟩ := H
              replace H : (ravelinref01_Solve.j1 k1 a0 a1 a2 a3 a4 a5 x15_1 ((x15_1) % 256) t124) = some (r1, r2, r3) := H
              have A16 := Aside0.mk A160
              clear A160
              have H' := Aside0.mk H
              clear H
              go_wp2_with (first | ((with_reducible refine gate_callee (f := 17) rfl ?_); refine goesL_ (some 48) rfl rfl Try.func17 (by kernel_rfl) rfl #[.int .u8 a2, .int .u8 ((x15_1) % 256)] rfl (by (try simp only [List.map_toArray, List.map_cons, List.map_nil]); first | done | rfl | (simp only [List.length_drop, List.length_take]; rfl)) ?_; (with_reducible refine (ravelinref01_Mul.calls k1 a2 ((x15_1) % 256) t123 _ A15.out).mono ?_); rintro e w' ⟨rfl, ⟨nd, rfl⟩⟩; refine ⟨_, rfl, ?_⟩) | ((with_reducible refine gate_callee (f := 13) rfl ?_); refine goesL_ (some 51) rfl rfl Try.func13 (by kernel_rfl) rfl #[.int .u8 (Go.bits .xor .u8 a5 t123), .int .u8 a3] rfl (by (try simp only [List.map_toArray, List.map_cons, List.map_nil]); first | done | rfl | (simp only [List.length_drop, List.length_take]; rfl)) ?_; (with_reducible refine (ravelinref01_Div.calls k1 (Go.bits .xor .u8 a5 t123) a3 t124 t125 _ A16.out).mono ?_); rintro e w' ⟨rfl, ⟨nd, rfl⟩⟩; refine ⟨_, rfl, ?_⟩))
              go_meet
              case rel => exact ⟨_, (t124), (by first | rfl | (simp; done) | (simp [*]; done)), H', ⟨by have := HK1.out; first | omega | exact Nat.le_refl _⟩, by repeat (first | exact Drawn0.refl _ | apply Drawn0.step)⟩
          case rest =>
            clear HC13
            try clear c1
            try clear p2
            try clear c9
            try clear c9b0
            try clear c9b1
            try clear c10
            try clear c10b0
            try clear c13
            try clear c14
            try clear c14b0
            try clear c14b1
            try clear p2
            obtain ⟨kq, x17_12, rfl, HA, HJ12, ⟨mc12, rfl⟩⟩ := hcut
            cases kq with
            | zero => exact absurd HA.out (by simp [ravelinref01_Solve.j1])
            | succ kj12 =>
              have H := HA.out
              clear HA
              simp only [ravelinref01_Solve.j1] at H
              replace H := Option.bind_eq_some_iff.mp H
              obtain ⟨t126, A170, H⟩ := H
              replace H : ((ravelinref01_Mul.f kj12 a1 x17_12).bind fun t127 => (if (Go.bits .xor .u8 t126 t127) = a4 then ((ravelinref01_Mul.f kj12 a2 ((x15_1) % 256)).bind fun t128 => ((ravelinref01_Mul.f kj12 a3 x17_12).bind fun t129 => (if (Go.bits .xor .u8 t128 t129) = a5 then (some (((x15_1) % 256), x17_12, 0)) else (ravelinref01_Solve.l0 kj12 a0 a1 a2 a3 a4 a5 (wrap64 (x15_1 + 1)))))) else (ravelinref01_Solve.l0 kj12 a0 a1 a2 a3 a4 a5 (wrap64 (x15_1 + 1))))) = some (r1, r2, r3) := H
              have A17 := Aside0.mk A170
              clear A170
              replace H := Option.bind_eq_some_iff.mp H
              obtain ⟨t127, A180, H⟩ := H
              replace H : (if (Go.bits .xor .u8 t126 t127) = a4 then ((ravelinref01_Mul.f kj12 a2 ((x15_1) % 256)).bind fun t128 => ((ravelinref01_Mul.f kj12 a3 x17_12).bind fun t129 => (if (Go.bits .xor .u8 t128 t129) = a5 then (some (((x15_1) % 256), x17_12, 0)) else (ravelinref01_Solve.l0 kj12 a0 a1 a2 a3 a4 a5 (wrap64 (x15_1 + 1)))))) else (ravelinref01_Solve.l0 kj12 a0 a1 a2 a3 a4 a5 (wrap64 (x15_1 + 1)))) = some (r1, r2, r3) := H
              have A18 := Aside0.mk A180
              clear A180
              by_cases c19 : (Go.bits .xor .u8 t126 t127) = a4
              · rw [if_pos c19] at H
                have c19b0 : ((Go.bits .xor .u8 t126 t127) == a4) = true := beq_iff_eq.mpr c19
                have c19b1 : ((Go.bits .xor .u8 t126 t127) != a4) = false := bne_eq_false_iff_eq.mpr c19
                clear c19
                replace H := Option.bind_eq_some_iff.mp H
                obtain ⟨t128, A200, H⟩ := H
                replace H : ((ravelinref01_Mul.f kj12 a3 x17_12).bind fun t129 => (if (Go.bits .xor .u8 t128 t129) = a5 then (some (((x15_1) % 256), x17_12, 0)) else (ravelinref01_Solve.l0 kj12 a0 a1 a2 a3 a4 a5 (wrap64 (x15_1 + 1))))) = some (r1, r2, r3) := H
                have A20 := Aside0.mk A200
                clear A200
                replace H := Option.bind_eq_some_iff.mp H
                obtain ⟨t129, A210, H⟩ := H
                replace H : (if (Go.bits .xor .u8 t128 t129) = a5 then (some (((x15_1) % 256), x17_12, 0)) else (ravelinref01_Solve.l0 kj12 a0 a1 a2 a3 a4 a5 (wrap64 (x15_1 + 1)))) = some (r1, r2, r3) := H
                have A21 := Aside0.mk A210
                clear A210
                by_cases c22 : (Go.bits .xor .u8 t128 t129) = a5
                · rw [if_pos c22] at H
                  have c22b0 : ((Go.bits .xor .u8 t128 t129) == a5) = true := beq_iff_eq.mpr c22
                  have c22b1 : ((Go.bits .xor .u8 t128 t129) != a5) = false := bne_eq_false_iff_eq.mpr c22
                  clear c22
                  simp only [Option.some.injEq, Prod.mk.injEq] at H
                  obtain ⟨rfl, rfl, rfl⟩ := H
                  go_wp2_with (first | ((with_reducible refine gate_callee (f := 17) rfl ?_); refine goesL_ (some 56) rfl rfl Try.func17 (by kernel_rfl) rfl #[.int .u8 a0, .int .u8 ((x15_1) % 256)] rfl (by (try simp only [List.map_toArray, List.map_cons, List.map_nil]); first | done | rfl | (simp only [List.length_drop, List.length_take]; rfl)) ?_; (with_reducible refine (ravelinref01_Mul.calls kj12 a0 ((x15_1) % 256) t126 _ A17.out).mono ?_); rintro e w' ⟨rfl, ⟨nd, rfl⟩⟩; refine ⟨_, rfl, ?_⟩) | ((with_reducible refine gate_callee (f := 17) rfl ?_); refine goesL_ (some 59) rfl rfl Try.func17 (by kernel_rfl) rfl #[.int .u8 a1, .int .u8 x17_12] rfl (by (try simp only [List.map_toArray, List.map_cons, List.map_nil]); first | done | rfl | (simp only [List.length_drop, List.length_take]; rfl)) ?_; (with_reducible refine (ravelinref01_Mul.calls kj12 a1 x17_12 t127 _ A18.out).mono ?_); rintro e w' ⟨rfl, ⟨nd, rfl⟩⟩; refine ⟨_, rfl, ?_⟩) | (go_at_call 17; (with_reducible refine (ravelinref01_Mul.calls kj12 a2 ((x15_1) % 256) t128 _ A20.out).mono ?_); rintro e w' ⟨rfl, ⟨nd, rfl⟩⟩) | (go_at_call 17; (with_reducible refine (ravelinref01_Mul.calls kj12 a3 x17_12 t129 _ A21.out).mono ?_); rintro e w' ⟨rfl, ⟨nd, rfl⟩⟩))
                  go_ret3
                  exact ⟨by first | rfl | (simp; done) | (simp [*]; done), by repeat (first | exact Drawn0.refl _ | apply Drawn0.step)⟩
                · rw [if_neg c22] at H
                  have c22b0 : ((Go.bits .xor .u8 t128 t129) == a5) = false := beq_eq_false_iff_ne.mpr c22
                  have c22b1 : ((Go.bits .xor .u8 t128 t129) != a5) = true := bne_iff_ne.mpr c22
                  have H' := Aside0.mk H
                  clear H
                  go_wp2_with (first | ((with_reducible refine gate_callee (f := 17) rfl ?_); refine goesL_ (some 56) rfl rfl Try.func17 (by kernel_rfl) rfl #[.int .u8 a0, .int .u8 ((x15_1) % 256)] rfl (by (try simp only [List.map_toArray, List.map_cons, List.map_nil]); first | done | rfl | (simp only [List.length_drop, List.length_take]; rfl)) ?_; (with_reducible refine (ravelinref01_Mul.calls kj12 a0 ((x15_1) % 256) t126 _ A17.out).mono ?_); rintro e w' ⟨rfl, ⟨nd, rfl⟩⟩; refine ⟨_, rfl, ?_⟩) | ((with_reducible refine gate_callee (f := 17) rfl ?_); refine goesL_ (some 59) rfl rfl Try.func17 (by kernel_rfl) rfl #[.int .u8 a1, .int .u8 x17_12] rfl (by (try simp only [List.map_toArray, List.map_cons, List.map_nil]); first | done | rfl | (simp only [List.length_drop, List.length_take]; rfl)) ?_; (with_reducible refine (ravelinref01_Mul.calls kj12 a1 x17_12 t127 _ A18.out).mono ?_); rintro e w' ⟨rfl, ⟨nd, rfl⟩⟩; refine ⟨_, rfl, ?_⟩) | (go_at_call 17; (with_reducible refine (ravelinref01_Mul.calls kj12 a2 ((x15_1) % 256) t128 _ A20.out).mono ?_); rintro e w' ⟨rfl, ⟨nd, rfl⟩⟩) | (go_at_call 17; (with_reducible refine (ravelinref01_Mul.calls kj12 a3 x17_12 t129 _ A21.out).mono ?_); rintro e w' ⟨rfl, ⟨nd, rfl⟩⟩))
                  go_roundg kj12
                  case measure => have := HK1.out; have := HJ12.out; omega
                  case rel => exact ⟨(wrap64 (x15_1 + 1)), (by first | rfl | (simp; done) | (simp [*]; done)), H', ⟨by have := HK1.out; have := HJ12.out; omega⟩, by repeat (first | exact Drawn0.refl _ | apply Drawn0.step)⟩
              · rw [if_neg c19] at H
                have c19b0 : ((Go.bits .xor .u8 t126 t127) == a4) = false := beq_eq_false_iff_ne.mpr c19
                have c19b1 : ((Go.bits .xor .u8 t126 t127) != a4) = true := bne_iff_ne.mpr c19
                have H' := Aside0.mk H
                clear H
                go_wp2_with (first | ((with_reducible refine gate_callee (f := 17) rfl ?_); refine goesL_ (some 56) rfl rfl Try.func17 (by kernel_rfl) rfl #[.int .u8 a0, .int .u8 ((x15_1) % 256)] rfl (by (try simp only [List.map_toArray, List.map_cons, List.map_nil]); first | done | rfl | (simp only [List.length_drop, List.length_take]; rfl)) ?_; (with_reducible refine (ravelinref01_Mul.calls kj12 a0 ((x15_1) % 256) t126 _ A17.out).mono ?_); rintro e w' ⟨rfl, ⟨nd, rfl⟩⟩; refine ⟨_, rfl, ?_⟩) | ((with_reducible refine gate_callee (f := 17) rfl ?_); refine goesL_ (some 59) rfl rfl Try.func17 (by kernel_rfl) rfl #[.int .u8 a1, .int .u8 x17_12] rfl (by (try simp only [List.map_toArray, List.map_cons, List.map_nil]); first | done | rfl | (simp only [List.length_drop, List.length_take]; rfl)) ?_; (with_reducible refine (ravelinref01_Mul.calls kj12 a1 x17_12 t127 _ A18.out).mono ?_); rintro e w' ⟨rfl, ⟨nd, rfl⟩⟩; refine ⟨_, rfl, ?_⟩))
                go_roundg kj12
                case measure => have := HK1.out; have := HJ12.out; omega
                case rel => exact ⟨(wrap64 (x15_1 + 1)), (by first | rfl | (simp; done) | (simp [*]; done)), H', ⟨by have := HK1.out; have := HJ12.out; omega⟩, by repeat (first | exact Drawn0.refl _ | apply Drawn0.step)⟩
        · rw [if_neg c10] at H
          have c10b0 : decide (x15_1 < 256) = false := decide_eq_false c10
          clear c10
          simp only [Option.some.injEq, Prod.mk.injEq] at H
          obtain ⟨rfl, rfl, rfl⟩ := H
          go_wp2
          go_ret3
          exact ⟨by first | rfl | (simp; done) | (simp [*]; done), by repeat (first | exact Drawn0.refl _ | apply Drawn0.step)⟩

/-! ### ravelinlaw01_GfSolves: function 4 -/
def ravelinlaw01_GfSolves.f (k : Nat) (a0 : Int) (a1 : Int) (a2 : Int) (a3 : Int) (a4 : Int) (a5 : Int) : Option (Bool) := (gf_Solve.f k a0 a1 a2 a3 a4 a5).bind fun bt130 => ((ravelinref01_Solve.f k a0 a1 a2 a3 a4 a5).bind fun bt133 => ((ravelinlaw01_awake.f k).bind fun t136 => (if t136 = true then (if bt130.1 = bt133.1 then (if bt130.2.1 = bt133.2.1 then (some (bt130.2.2 == bt133.2.2)) else (some false)) else (some false)) else (some false))))
theorem ravelinlaw01_GfSolves.mono : ∀ a0 a1 a2 a3 a4 a5 k, LeO (ravelinlaw01_GfSolves.f k a0 a1 a2 a3 a4 a5) (ravelinlaw01_GfSolves.f (k + 1) a0 a1 a2 a3 a4 a5) := by
  intro a0 a1 a2 a3 a4 a5 k
  unfold ravelinlaw01_GfSolves.f
  repeat' first
      | (with_reducible exact gf_Solve.mono _ _ _ _ _ _ _)
      | (with_reducible exact ravelinlaw01_awake.mono _)
      | (with_reducible exact ravelinref01_Solve.mono _ _ _ _ _ _ _)
      | (with_reducible exact LeO.refl _)
      | (with_reducible exact LeO.none _)
      | (with_reducible refine LeO.ite ?_ ?_)
      | (with_reducible refine LeO.bind ?_ (fun _ => ?_))
      | exact gf_Solve.mono _ _ _ _ _ _ _
      | exact ravelinlaw01_awake.mono _
      | exact ravelinref01_Solve.mono _ _ _ _ _ _ _
      | exact LeO.none _
      | refine LeO.ite ?_ ?_
      | refine LeO.bind ?_ (fun _ => ?_)
set_option maxHeartbeats 8000000 in
set_option maxRecDepth 100000 in
theorem ravelinlaw01_GfSolves.calls (k : Nat) (a0 : Int) (a1 : Int) (a2 : Int) (a3 : Int) (a4 : Int) (a5 : Int) (r : Bool) (w : World) (h : ravelinlaw01_GfSolves.f k a0 a1 a2 a3 a4 a5 = some r) :
    Calls Try.prog 4 #[.int .u8 a0, .int .u8 a1, .int .u8 a2, .int .u8 a3, .int .u8 a4, .int .u8 a5] w fun e w' => e = .returned (.bool r) ∧ Drawn0 w w' := by
  have H : ((gf_Solve.f k a0 a1 a2 a3 a4 a5).bind fun bt130 => ((ravelinref01_Solve.f k a0 a1 a2 a3 a4 a5).bind fun bt133 => ((ravelinlaw01_awake.f k).bind fun t136 => (if t136 = true then (if bt130.1 = bt133.1 then (if bt130.2.1 = bt133.2.1 then (some (bt130.2.2 == bt133.2.2)) else (some false)) else (some false)) else (some false))))) = some r := h
  clear h
  replace H := Option.bind_eq_some_iff.mp H
  obtain ⟨⟨t130, t131, t132⟩, A70, H⟩ := H
  replace H : ((ravelinref01_Solve.f k a0 a1 a2 a3 a4 a5).bind fun bt133 => ((ravelinlaw01_awake.f k).bind fun t136 => (if t136 = true then (if t130 = bt133.1 then (if t131 = bt133.2.1 then (some (t132 == bt133.2.2)) else (some false)) else (some false)) else (some false)))) = some r := H
  have A7 := Aside0.mk A70
  clear A70
  replace H := Option.bind_eq_some_iff.mp H
  obtain ⟨⟨t133, t134, t135⟩, A80, H⟩ := H
  replace H : ((ravelinlaw01_awake.f k).bind fun t136 => (if t136 = true then (if t130 = t133 then (if t131 = t134 then (some (t132 == t135)) else (some false)) else (some false)) else (some false))) = some r := H
  have A8 := Aside0.mk A80
  clear A80
  replace H := Option.bind_eq_some_iff.mp H
  obtain ⟨t136, A90, H⟩ := H
  replace H : (if t136 = true then (if t130 = t133 then (if t131 = t134 then (some (t132 == t135)) else (some false)) else (some false)) else (some false)) = some r := H
  have A9 := Aside0.mk A90
  clear A90
  by_cases c10 : t136 = true
  · subst c10
    have H1 : (if t130 = t133 then (if t131 = t134 then (some (t132 == t135)) else (some false)) else (some false)) = some r := by rw [if_pos rfl] at H; exact H
    clear H
    have H := H1
    clear H1
    by_cases c11 : t130 = t133
    · rw [if_pos c11] at H
      have c11b0 : (t130 == t133) = true := beq_iff_eq.mpr c11
      have c11b1 : (t130 != t133) = false := bne_eq_false_iff_eq.mpr c11
      clear c11
      by_cases c12 : t131 = t134
      · rw [if_pos c12] at H
        have c12b0 : (t131 == t134) = true := beq_iff_eq.mpr c12
        have c12b1 : (t131 != t134) = false := bne_eq_false_iff_eq.mpr c12
        clear c12
        obtain rfl := Option.some.inj H
        go_enter Try.func4, Try.ntmps4
        go_wp2_with (first | ((with_reducible refine gate_callee (f := 18) rfl ?_); refine goesL_ (some 26) rfl rfl Try.func18 (by kernel_rfl) rfl #[.int .u8 a0, .int .u8 a1, .int .u8 a2, .int .u8 a3, .int .u8 a4, .int .u8 a5] rfl (by (try simp only [List.map_toArray, List.map_cons, List.map_nil]); first | done | rfl | (simp only [List.length_drop, List.length_take]; rfl)) ?_; (with_reducible refine (gf_Solve.calls k a0 a1 a2 a3 a4 a5 t130 t131 t132 _ A7.out).mono ?_); rintro e w' ⟨rfl, ⟨nd, rfl⟩⟩; refine ⟨_, rfl, ?_⟩) | ((with_reducible refine gate_callee (f := 19) rfl ?_); refine goesL_ (some 37) rfl rfl Try.func19 (by kernel_rfl) rfl #[.int .u8 a0, .int .u8 a1, .int .u8 a2, .int .u8 a3, .int .u8 a4, .int .u8 a5] rfl (by (try simp only [List.map_toArray, List.map_cons, List.map_nil]); first | done | rfl | (simp only [List.length_drop, List.length_take]; rfl)) ?_; (with_reducible refine (ravelinref01_Solve.calls k a0 a1 a2 a3 a4 a5 t133 t134 t135 _ A8.out).mono ?_); rintro e w' ⟨rfl, ⟨nd, rfl⟩⟩; refine ⟨_, rfl, ?_⟩) | ((with_reducible refine gate_callee (f := 14) rfl ?_); refine goesL_ (some 41) rfl rfl Try.func14 (by kernel_rfl) rfl #[] rfl (by (try simp only [List.map_toArray, List.map_cons, List.map_nil]); first | done | rfl | (simp only [List.length_drop, List.length_take]; rfl)) ?_; (with_reducible refine (ravelinlaw01_awake.calls k  true _ A9.out).mono ?_); rintro e w' ⟨rfl, ⟨nd, rfl⟩⟩; refine ⟨_, rfl, ?_⟩))
        go_ret
        exact ⟨by first | rfl | (simp; done) | (simp [*]; done), by repeat (first | exact Drawn0.refl _ | apply Drawn0.step)⟩
      · rw [if_neg c12] at H
        have c12b0 : (t131 == t134) = false := beq_eq_false_iff_ne.mpr c12
        have c12b1 : (t131 != t134) = true := bne_iff_ne.mpr c12
        obtain rfl := Option.some.inj H
        go_enter Try.func4, Try.ntmps4
        go_wp2_with (first | ((with_reducible refine gate_callee (f := 18) rfl ?_); refine goesL_ (some 26) rfl rfl Try.func18 (by kernel_rfl) rfl #[.int .u8 a0, .int .u8 a1, .int .u8 a2, .int .u8 a3, .int .u8 a4, .int .u8 a5] rfl (by (try simp only [List.map_toArray, List.map_cons, List.map_nil]); first | done | rfl | (simp only [List.length_drop, List.length_take]; rfl)) ?_; (with_reducible refine (gf_Solve.calls k a0 a1 a2 a3 a4 a5 t130 t131 t132 _ A7.out).mono ?_); rintro e w' ⟨rfl, ⟨nd, rfl⟩⟩; refine ⟨_, rfl, ?_⟩) | ((with_reducible refine gate_callee (f := 19) rfl ?_); refine goesL_ (some 37) rfl rfl Try.func19 (by kernel_rfl) rfl #[.int .u8 a0, .int .u8 a1, .int .u8 a2, .int .u8 a3, .int .u8 a4, .int .u8 a5] rfl (by (try simp only [List.map_toArray, List.map_cons, List.map_nil]); first | done | rfl | (simp only [List.length_drop, List.length_take]; rfl)) ?_; (with_reducible refine (ravelinref01_Solve.calls k a0 a1 a2 a3 a4 a5 t133 t134 t135 _ A8.out).mono ?_); rintro e w' ⟨rfl, ⟨nd, rfl⟩⟩; refine ⟨_, rfl, ?_⟩) | ((with_reducible refine gate_callee (f := 14) rfl ?_); refine goesL_ (some 41) rfl rfl Try.func14 (by kernel_rfl) rfl #[] rfl (by (try simp only [List.map_toArray, List.map_cons, List.map_nil]); first | done | rfl | (simp only [List.length_drop, List.length_take]; rfl)) ?_; (with_reducible refine (ravelinlaw01_awake.calls k  true _ A9.out).mono ?_); rintro e w' ⟨rfl, ⟨nd, rfl⟩⟩; refine ⟨_, rfl, ?_⟩))
        go_ret
        exact ⟨by first | rfl | (simp; done) | (simp [*]; done), by repeat (first | exact Drawn0.refl _ | apply Drawn0.step)⟩
    · rw [if_neg c11] at H
      have c11b0 : (t130 == t133) = false := beq_eq_false_iff_ne.mpr c11
      have c11b1 : (t130 != t133) = true := bne_iff_ne.mpr c11
      obtain rfl := Option.some.inj H
      go_enter Try.func4, Try.ntmps4
      go_wp2_with (first | ((with_reducible refine gate_callee (f := 18) rfl ?_); refine goesL_ (some 26) rfl rfl Try.func18 (by kernel_rfl) rfl #[.int .u8 a0, .int .u8 a1, .int .u8 a2, .int .u8 a3, .int .u8 a4, .int .u8 a5] rfl (by (try simp only [List.map_toArray, List.map_cons, List.map_nil]); first | done | rfl | (simp only [List.length_drop, List.length_take]; rfl)) ?_; (with_reducible refine (gf_Solve.calls k a0 a1 a2 a3 a4 a5 t130 t131 t132 _ A7.out).mono ?_); rintro e w' ⟨rfl, ⟨nd, rfl⟩⟩; refine ⟨_, rfl, ?_⟩) | ((with_reducible refine gate_callee (f := 19) rfl ?_); refine goesL_ (some 37) rfl rfl Try.func19 (by kernel_rfl) rfl #[.int .u8 a0, .int .u8 a1, .int .u8 a2, .int .u8 a3, .int .u8 a4, .int .u8 a5] rfl (by (try simp only [List.map_toArray, List.map_cons, List.map_nil]); first | done | rfl | (simp only [List.length_drop, List.length_take]; rfl)) ?_; (with_reducible refine (ravelinref01_Solve.calls k a0 a1 a2 a3 a4 a5 t133 t134 t135 _ A8.out).mono ?_); rintro e w' ⟨rfl, ⟨nd, rfl⟩⟩; refine ⟨_, rfl, ?_⟩) | ((with_reducible refine gate_callee (f := 14) rfl ?_); refine goesL_ (some 41) rfl rfl Try.func14 (by kernel_rfl) rfl #[] rfl (by (try simp only [List.map_toArray, List.map_cons, List.map_nil]); first | done | rfl | (simp only [List.length_drop, List.length_take]; rfl)) ?_; (with_reducible refine (ravelinlaw01_awake.calls k  true _ A9.out).mono ?_); rintro e w' ⟨rfl, ⟨nd, rfl⟩⟩; refine ⟨_, rfl, ?_⟩))
      go_ret
      exact ⟨by first | rfl | (simp; done) | (simp [*]; done), by repeat (first | exact Drawn0.refl _ | apply Drawn0.step)⟩
  · replace c10 := Bool.eq_false_iff.mpr c10
    subst c10
    have H1 : (some false) = some r := by rw [if_neg (show ¬ (false = true) by decide)] at H; exact H
    clear H
    have H := H1
    clear H1
    obtain rfl := Option.some.inj H
    go_enter Try.func4, Try.ntmps4
    go_wp2_with (first | ((with_reducible refine gate_callee (f := 18) rfl ?_); refine goesL_ (some 26) rfl rfl Try.func18 (by kernel_rfl) rfl #[.int .u8 a0, .int .u8 a1, .int .u8 a2, .int .u8 a3, .int .u8 a4, .int .u8 a5] rfl (by (try simp only [List.map_toArray, List.map_cons, List.map_nil]); first | done | rfl | (simp only [List.length_drop, List.length_take]; rfl)) ?_; (with_reducible refine (gf_Solve.calls k a0 a1 a2 a3 a4 a5 t130 t131 t132 _ A7.out).mono ?_); rintro e w' ⟨rfl, ⟨nd, rfl⟩⟩; refine ⟨_, rfl, ?_⟩) | ((with_reducible refine gate_callee (f := 19) rfl ?_); refine goesL_ (some 37) rfl rfl Try.func19 (by kernel_rfl) rfl #[.int .u8 a0, .int .u8 a1, .int .u8 a2, .int .u8 a3, .int .u8 a4, .int .u8 a5] rfl (by (try simp only [List.map_toArray, List.map_cons, List.map_nil]); first | done | rfl | (simp only [List.length_drop, List.length_take]; rfl)) ?_; (with_reducible refine (ravelinref01_Solve.calls k a0 a1 a2 a3 a4 a5 t133 t134 t135 _ A8.out).mono ?_); rintro e w' ⟨rfl, ⟨nd, rfl⟩⟩; refine ⟨_, rfl, ?_⟩) | ((with_reducible refine gate_callee (f := 14) rfl ?_); refine goesL_ (some 41) rfl rfl Try.func14 (by kernel_rfl) rfl #[] rfl (by (try simp only [List.map_toArray, List.map_cons, List.map_nil]); first | done | rfl | (simp only [List.length_drop, List.length_take]; rfl)) ?_; (with_reducible refine (ravelinlaw01_awake.calls k  false _ A9.out).mono ?_); rintro e w' ⟨rfl, ⟨nd, rfl⟩⟩; refine ⟨_, rfl, ?_⟩))
    go_ret
    exact ⟨by first | rfl | (simp; done) | (simp [*]; done), by repeat (first | exact Drawn0.refl _ | apply Drawn0.step)⟩

/-- THE ONE PURE STATEMENT of ravelinlaw01_GfSolves: yours. -/
def ravelinlaw01_GfSolves.Pure : Prop := ∀ (a0 : Int) (a1 : Int) (a2 : Int) (a3 : Int) (a4 : Int) (a5 : Int), (Lit.int .u8 a0).wf = true → (Lit.int .u8 a1).wf = true → (Lit.int .u8 a2).wf = true → (Lit.int .u8 a3).wf = true → (Lit.int .u8 a4).wf = true → (Lit.int .u8 a5).wf = true → ∃ k, ravelinlaw01_GfSolves.f k a0 a1 a2 a3 a4 a5 = some true
theorem ravelinlaw01_GfSolves.walk (P : ravelinlaw01_GfSolves.Pure) (a0 : Int) (a1 : Int) (a2 : Int) (a3 : Int) (a4 : Int) (a5 : Int) (w : World) (w0 : (Lit.int .u8 a0).wf = true) (w1 : (Lit.int .u8 a1).wf = true) (w2 : (Lit.int .u8 a2).wf = true) (w3 : (Lit.int .u8 a3).wf = true) (w4 : (Lit.int .u8 a4).wf = true) (w5 : (Lit.int .u8 a5).wf = true) :
    Calls Try.prog 4 #[.int .u8 a0, .int .u8 a1, .int .u8 a2, .int .u8 a3, .int .u8 a4, .int .u8 a5] w fun e w' => e = .returned (.bool true) ∧ Below w.heap.size w w' := by
  obtain ⟨k, h⟩ := P a0 a1 a2 a3 a4 a5 w0 w1 w2 w3 w4 w5
  refine (ravelinlaw01_GfSolves.calls k a0 a1 a2 a3 a4 a5 true w h).mono ?_
  rintro e w' ⟨rfl, hd⟩
  exact ⟨rfl, hd.below⟩

end Go.Proofs.Ytpmhoocigdkhbaa.PGfSolves
