/- What the printed functions of one statement come to, over the plain mathematics. Written by Bridge.py (a program of ours). -/
import Derived.Test.YtpmhoocigdkhbaaBits
import Derived.Test.YtpmhoocigdkhbaaPGfPowersx2
set_option linter.unusedVariables false
namespace Go.Proofs.Ytpmhoocigdkhbaa.BrPGfPowers
open Go Go.RowKit Go.Proofs.YtpmhoocigdkhbaaW.PrintWords Go.Proofs.YtpmhoocigdkhbaaW.PrintLast Go.Proofs.YtpmhoocigdkhbaaW.PrintMore Go.Proofs.Ytpmhoocigdkhbaa.Bridge Go.Proofs.Ytpmhoocigdkhbaa.PGfPowers

/-! gf.Mul -/
theorem mulN_b0 : ∀ (n p x : Nat), Math.mulN n 0 p x = p := fun n p x => by rw [Math.mulN_eq, Math.S_zero_b, Nat.xor_zero]
theorem mul_l0 : ∀ (n b p x : Nat), b < 256 → b < 2 ^ n → p < 256 → x < 256 → ∀ k, n < k → gf_Mul.l0 k (b : Int) (p : Int) (x : Int) = some ((Math.mulN n b p x : Nat) : Int)
  | 0, b, p, x, hb, hb2, hp, hx, k, hk => by
    obtain ⟨k, rfl⟩ : ∃ m, k = m + 1 := ⟨k - 1, by omega⟩
    have h0 : b = 0 := by simp at hb2; omega
    subst h0
    simp only [gf_Mul.l0]
    rw [if_neg (by omega)]
    simp only [Math.mulN]
    congr 1
    omega
  | n + 1, b, p, x, hb, hb2, hp, hx, k, hk => by
    obtain ⟨k, rfl⟩ : ∃ m, k = m + 1 := ⟨k - 1, by omega⟩
    by_cases h0 : b = 0
    · subst h0
      simp only [gf_Mul.l0]
      rw [if_neg (by omega), mulN_b0]
      congr 1
      omega
    · simp only [gf_Mul.l0]
      rw [if_pos (by omega)]
      have e2 : ((b : Int) / 2) = ((b / 2 : Nat) : Int) := by omega
      have ex : wrap64 ((x : Int) * 2) = ((x * 2 : Nat) : Int) := by rw [show ((x : Int) * 2) = ((x * 2 : Nat) : Int) from by omega]; exact wrap64_nat _ (by omega)
      have e285 : (285 : Int) = ((285 : Nat) : Int) := rfl
      rw [ex, e2, and_u8_one b hb, e285, xor_i64 p x (by omega) (by omega), xor_i64 (x * 2) 285 (by omega) (by omega)]
      have hb3 : b / 2 < 2 ^ n := by rw [Nat.pow_succ] at hb2; omega
      have hxt := Math.xt_lt x hx
      have hpx : p ^^^ x < 256 := Math.xor_lt hp hx
      simp only [Math.mulN]
      by_cases h1 : b % 2 = 1
      · rw [if_pos ((odd_cast b).2 h1), if_pos h1]
        by_cases h2 : 255 < x * 2
        · rw [if_pos (by omega)]
          have e : Math.xt x = x * 2 ^^^ 285 := if_pos h2
          rw [← e]
          exact mul_l0 n _ _ _ (by omega) hb3 hpx hxt k (by omega)
        · rw [if_neg (by omega)]
          have e : Math.xt x = x * 2 := if_neg h2
          rw [← e]
          exact mul_l0 n _ _ _ (by omega) hb3 hpx hxt k (by omega)
      · rw [if_neg (fun h => h1 ((odd_cast b).1 h)), if_neg h1]
        by_cases h2 : 255 < x * 2
        · rw [if_pos (by omega)]
          have e : Math.xt x = x * 2 ^^^ 285 := if_pos h2
          rw [← e]
          exact mul_l0 n _ _ _ (by omega) hb3 hp hxt k (by omega)
        · rw [if_neg (by omega)]
          have e : Math.xt x = x * 2 := if_neg h2
          rw [← e]
          exact mul_l0 n _ _ _ (by omega) hb3 hp hxt k (by omega)
theorem mul_f (a b : Nat) (ha : a < 256) (hb : b < 256) (k : Nat) (hk : 8 < k) : gf_Mul.f k (a : Int) (b : Int) = some ((Math.mul a b : Nat) : Int) := by
  unfold gf_Mul.f
  rw [wrap64_nat a (by omega), show (0 : Int) = ((0 : Nat) : Int) from rfl, mul_l0 8 b 0 a hb hb (by omega) ha k hk, Math.mulN_eq, Nat.zero_xor]
  rfl
theorem mul_ev (a b : Nat) (ha : a < 256) (hb : b < 256) : Ev (fun k => gf_Mul.f k (a : Int) (b : Int)) ((Math.mul a b : Nat) : Int) := ⟨9, fun k hk => mul_f a b ha hb k (by omega)⟩

theorem add_f (a b : Nat) (ha : a < 256) (hb : b < 256) : gf_Add.f (a : Int) (b : Int) = some ((a ^^^ b : Nat) : Int) := by
  unfold gf_Add.f; rw [xor_u8 a b ha hb]

theorem awake_ev : Ev (fun k => ravelinlaw01_awake.f k) true := by
  refine ⟨9, fun k hk => ?_⟩
  show ravelinlaw01_awake.f k = some true
  unfold ravelinlaw01_awake.f
  have h := mul_f 2 128 (by omega) (by omega) k (by omega)
  rw [show ((2 : Nat) : Int) = 2 from rfl, show ((128 : Nat) : Int) = 128 from rfl] at h
  rw [h, show Math.mul 2 128 = 29 from by decide +kernel]
  have h2 := add_f 5 3 (by omega) (by omega)
  rw [show ((5 : Nat) : Int) = 5 from rfl, show ((3 : Nat) : Int) = 3 from rfl] at h2
  simp only [Option.bind_some]
  rw [if_pos (by rfl), h2]
  rfl

/-! gf.power -/
theorem power_l0 : ∀ (n m a p : Nat), m < 4611686018427387904 → m < 2 ^ n → a < 256 → p < 256 → ∀ k, n + 9 < k → gf_power.l0 k (a : Int) (m : Int) (p : Int) = some ((Math.mul p (Math.pw a m) : Nat) : Int)
  | 0, m, a, p, hm, hm2, ha, hp, k, hk => by
    obtain ⟨k, rfl⟩ : ∃ m, k = m + 1 := ⟨k - 1, by omega⟩
    have h0 : m = 0 := by simp at hm2; omega
    subst h0
    simp only [gf_power.l0]
    rw [if_neg (by omega), Math.pw_zero, Math.mul_one p hp]
  | n + 1, m, a, p, hm, hm2, ha, hp, k, hk => by
    obtain ⟨k, rfl⟩ : ∃ m, k = m + 1 := ⟨k - 1, by omega⟩
    simp only [gf_power.l0]
    by_cases h0 : m = 0
    · subst h0
      rw [if_neg (by omega), Math.pw_zero, Math.mul_one p hp]
    · have e2 : ((m : Int) / 2) = ((m / 2 : Nat) : Int) := by omega
      have hm3 : m / 2 < 2 ^ n := by rw [Nat.pow_succ] at hm2; omega
      rw [if_pos (by omega), e2, and_i64_one m hm, mul_f p a hp ha k (by omega), mul_f a a ha ha k (by omega)]
      simp only [Option.bind_some]
      have key : m = m % 2 + 2 * (m / 2) := by omega
      by_cases h1 : m % 2 = 1
      · rw [if_pos ((odd_cast m).2 h1), power_l0 n _ _ _ (by omega) hm3 (Math.mul_lt ha) (Math.mul_lt hp) k (by omega), Math.pw_sq a _ ha, Math.mul_assoc hp ha (Math.pw_lt a ha _)]
        have e : Math.mul a (Math.pw a (2 * (m / 2))) = Math.pw a m := by
          conv => rhs; rw [key, h1, Math.pw_add a ha, Math.pw_one a ha]
        rw [e]
      · rw [if_neg (fun h => h1 ((odd_cast m).1 h)), power_l0 n _ _ _ (by omega) hm3 (Math.mul_lt ha) hp k (by omega), Math.pw_sq a _ ha]
        have e : 2 * (m / 2) = m := by omega
        rw [e]
theorem power_f (a m : Nat) (ha : a < 256) (hm : m < 4611686018427387904) (k : Nat) (hk : 71 < k) : gf_power.f k (a : Int) (m : Int) = some ((Math.pw a m : Nat) : Int) := by
  unfold gf_power.f
  rw [show (1 : Int) = ((1 : Nat) : Int) from rfl, power_l0 62 m a 1 hm hm ha (by omega) k (by omega), Math.one_mul _ (Math.pw_lt a ha m)]
theorem power_ev (a m : Nat) (ha : a < 256) (hm : m < 4611686018427387904) : Ev (fun k => gf_power.f k (a : Int) (m : Int)) ((Math.pw a m : Nat) : Int) := ⟨72, fun k hk => power_f a m ha hm k (by omega)⟩

/-! exponents -/
/-- n modulo 255, from 0 on. -/
def rnd (n : Int) : Nat := (n % 255).toNat
theorem rnd_lt (n : Int) : rnd n < 255 := by unfold rnd; omega
theorem tmod_255 (n : Int) : Int.tmod n 255 = n % 255 ∨ (n < 0 ∧ n % 255 ≠ 0 ∧ Int.tmod n 255 = n % 255 - 255) := by
  rcases Int.lt_or_le n 0 with h | h
  · by_cases h1 : n % 255 = 0
    · refine .inl ?_
      have := Int.tmod_eq_emod (a := n) (b := 255)
      rw [if_pos (.inr (Int.dvd_of_emod_eq_zero h1))] at this
      omega
    · refine .inr ⟨h, h1, ?_⟩
      have := Int.tmod_eq_emod (a := n) (b := 255)
      rw [if_neg (by rintro (h2 | h2); · omega
                     · exact h1 (Int.emod_eq_zero_of_dvd h2))] at this
      rw [this]; rfl
  · exact .inl (Int.tmod_eq_emod_of_nonneg h)
theorem around_f (n : Int) : gf_around.f n = some ((rnd n : Nat) : Int) := by
  unfold gf_around.f rnd
  have e : wrap64 (Int.tmod n 255 + 255) = Int.tmod n 255 + 255 := by unfold wrap64; rcases tmod_255 n with h | ⟨_, _, h⟩ <;> omega
  rw [e]
  congr 1
  rcases tmod_255 n with h | ⟨_, h1, h⟩
  · rw [h, Int.tmod_eq_emod_of_nonneg (by omega)]; omega
  · rw [h, Int.tmod_eq_emod_of_nonneg (by omega)]; omega

theorem exp_ev (n : Int) : Ev (fun k => gf_Exp.f k n) ((Math.e (rnd n) : Nat) : Int) := by
  have h := rnd_lt n
  refine Ev.congr (f := fun k => ((gf_power.f k 2 ((rnd n : Nat) : Int)).bind fun t109 => (some t109))) (fun k => by unfold gf_Exp.f; rw [around_f]; rfl) ?_
  rw [← Math.pw_two]
  exact Ev.bind (power_ev 2 (rnd n) (by omega) (by omega)) (Ev.now _)

/-- The least n with 2 to the power n = a. -/
def IsLog (a n : Nat) : Prop := n < 255 ∧ Math.e n = a ∧ ∀ j, j < n → Math.e j ≠ a
theorem isLog_ex (a : Nat) (ha : a < 256) (h0 : a ≠ 0) : ∃ n, IsLog a n := by
  obtain ⟨k, hk, he⟩ := Math.log_ex a ha h0
  have : ∀ m, ∀ k, k ≤ m → k < 255 → Math.e k = a → ∃ n, IsLog a n := by
    intro m
    induction m with
    | zero => intro k h1 h2 h3; exact ⟨k, h2, h3, fun j hj => by omega⟩
    | succ m ih =>
      intro k h1 h2 h3
      by_cases h : ∃ j, j < k ∧ Math.e j = a
      · obtain ⟨j, hj, hja⟩ := h; exact ih j (by omega) (by omega) hja
      · exact ⟨k, h2, h3, fun j hj hja => h ⟨j, hj, hja⟩⟩
  exact this k k (Nat.le_refl _) hk he
theorem log_l0 (a m : Nat) (_ : a < 256) (hm : IsLog a m) : ∀ (d i : Nat), i + d = m → Ev (fun k => gf_Log.l0 k (a : Int) (i : Int) ((Math.e i : Nat) : Int)) ((m : Int), (0 : Int))
  | 0, i, hi => by
    refine Ev.step (f := fun k => _) (fun k => by rw [gf_Log.l0]) ?_
    obtain rfl : i = m := by omega
    exact Ev.ite_pos (by rw [hm.2.1]) (Ev.now _)
  | d + 1, i, hi => by
    have h255 := hm.1
    refine Ev.step (f := fun k => _) (fun k => by rw [gf_Log.l0]) ?_
    have h1 := hm.2.2 i (by omega)
    refine Ev.ite_neg (by omega) ?_
    have hmul := mul_ev (Math.e i) 2 (Math.e_lt i) (by omega)
    rw [Math.mul_two _ (Math.e_lt i)] at hmul
    refine Ev.bind hmul ?_
    rw [show wrap64 ((i : Int) + 1) = ((i + 1 : Nat) : Int) from by unfold wrap64; omega]
    exact log_l0 a m ‹_› hm d (i + 1) (by omega)
theorem log_ev0 : Ev (fun k => gf_Log.f k ((0 : Nat) : Int)) ((0 : Int), (3 : Int)) := ⟨0, fun k _ => by show gf_Log.f k _ = _; unfold gf_Log.f; rw [if_pos (by rfl)]⟩
theorem log_ev (a m : Nat) (ha : a < 256) (h0 : a ≠ 0) (hm : IsLog a m) : Ev (fun k => gf_Log.f k (a : Int)) ((m : Int), (0 : Int)) := by
  refine Ev.congr (f := fun k => gf_Log.l0 k (a : Int) 0 1) (fun k => by unfold gf_Log.f; rw [if_neg (by omega)]) ?_
  have h := log_l0 a m ha hm m 0 (by omega)
  rw [show ((Math.e 0 : Nat) : Int) = 1 from rfl, show ((0 : Nat) : Int) = 0 from rfl] at h
  exact h

/-- What Pow answers. -/
def powR (a : Nat) (n : Int) : Int × Int := if n = 0 then (1, 0) else if a = 0 then (if n < 0 then (0, 3) else (0, 0)) else (((Math.pw a (rnd n) : Nat) : Int), 0)
theorem pow_ev (a : Nat) (n : Int) (ha : a < 256) : Ev (fun k => gf_Pow.f k (a : Int) n) (powR a n) := by
  have hr := rnd_lt n
  have last : a ≠ 0 → Ev (fun k => gf_Pow.j0 k (a : Int) n false) (((Math.pw a (rnd n) : Nat) : Int), (0 : Int)) := fun h0 => by
    refine Ev.step (f := fun k => _) (fun k => by rw [gf_Pow.j0]) ?_
    refine Ev.ite_neg (by decide) (Ev.ite_neg (by omega) ?_)
    rw [around_f]
    exact Ev.bind (Ev.now _) (Ev.bind (power_ev a (rnd n) ha (by omega)) (Ev.now _))
  unfold powR
  by_cases h1 : n = 0
  · rw [if_pos h1]; exact Ev.congr (fun k => by unfold gf_Pow.f; rw [if_pos h1]) (Ev.now _)
  · rw [if_neg h1]
    by_cases h0 : a = 0
    · rw [if_pos h0]
      refine Ev.congr (f := fun k => gf_Pow.j0 k (a : Int) n (decide (n < 0))) (fun k => by unfold gf_Pow.f; rw [if_neg h1, if_pos (by omega)]) ?_
      refine Ev.step (f := fun k => _) (fun k => by rw [gf_Pow.j0]) ?_
      by_cases h2 : n < 0
      · rw [if_pos h2]; exact Ev.ite_pos (by simpa using h2) (Ev.now _)
      · rw [if_neg h2]; exact Ev.ite_neg (by simpa using h2) (Ev.ite_pos (by omega) (Ev.now _))
    · rw [if_neg h0]
      exact Ev.congr (fun k => by unfold gf_Pow.f; rw [if_neg h1, if_neg (by omega)]) (last h0)

/-! ref.Mul -/
theorem rmul_l1 : ∀ (j p : Nat), j ≤ 7 → p < 65536 → Math.red j p < 256 → ∀ k, j < k → ravelinref01_Mul.l1 k (p : Int) ((j : Int) + 7) = some ((Math.red j p : Nat) : Int)
  | 0, p, _, hp, hr, k, hk => by
    obtain ⟨k, rfl⟩ : ∃ m, k = m + 1 := ⟨k - 1, by omega⟩
    simp only [ravelinref01_Mul.l1]
    rw [if_neg (by omega)]
    simp only [Math.red] at hr ⊢
    congr 1
    omega
  | j + 1, p, hj, hp, hr, k, hk => by
    obtain ⟨k, rfl⟩ : ∃ m, k = m + 1 := ⟨k - 1, by omega⟩
    simp only [ravelinref01_Mul.l1]
    have e1 : wrap64 (((j + 1 : Nat) : Int) + 7 - 8) = (j : Int) := by unfold wrap64; omega
    have e2 : wrap64 (((j + 1 : Nat) : Int) + 7 - 1) = (j : Int) + 7 := by unfold wrap64; omega
    have e3 : shr .i64 (p : Int) (((j + 1 : Nat) : Int) + 7) = ((p / 2 ^ (j + 8) : Nat) : Int) := by
      unfold shr
      have : min ((((j + 1 : Nat) : Int) + 7).toNat) IntKind.i64.bits = j + 8 := by show min _ 64 = _; omega
      rw [this]; simp
    have hpow : 2 ^ j ≤ 2 ^ 6 := Nat.pow_le_pow_right (by omega) (by omega)
    have e4 : shl .i64 285 (j : Int) = ((285 * 2 ^ j : Nat) : Int) := by
      unfold shl
      have : min ((j : Int).toNat) IntKind.i64.bits = j := by show min _ 64 = _; omega
      rw [this]
      have hc : ((285 : Int) * 2 ^ j) = ((285 * 2 ^ j : Nat) : Int) := by simp
      rw [hc, IntKind.wrap_i64]; omega
    have hdiv : p / 2 ^ (j + 8) < 65536 := Nat.lt_of_le_of_lt (Nat.div_le_self _ _) hp
    rw [if_pos (by omega), if_pos (by omega), e1, e2, e3, e4, and_i64_one (p / 2 ^ (j + 8)) (by omega), if_pos (show (0 : Int) ≤ (j : Int) by omega), xor_i64 p (285 * 2 ^ j) (by omega) (by omega)]
    have hlt : p ^^^ 285 * 2 ^ j < 65536 := Nat.xor_lt_two_pow (n := 16) hp (by omega)
    simp only [Math.red] at hr ⊢
    by_cases h1 : p / 2 ^ (j + 8) % 2 = 1
    · rw [if_pos ((odd_cast _).2 h1)]; rw [if_pos h1] at hr ⊢
      exact rmul_l1 j _ (by omega) hlt hr k (by omega)
    · rw [if_neg (fun h => h1 ((odd_cast _).1 h))]; rw [if_neg h1] at hr ⊢
      exact rmul_l1 j _ (by omega) hp hr k (by omega)
theorem rmul_l0 : ∀ (n i a b p : Nat), i + n = 8 → a < 256 → b < 256 → p < 65536 → Math.red 7 (Math.poly n i a b p) < 256 → ∀ k, n + 10 < k →
    ravelinref01_Mul.l0 k (a : Int) (b : Int) (p : Int) (i : Int) = some ((Math.red 7 (Math.poly n i a b p) : Nat) : Int)
  | 0, i, a, b, p, hi, ha, hb, hp, hr, k, hk => by
    obtain ⟨k, rfl⟩ : ∃ m, k = m + 1 := ⟨k - 1, by omega⟩
    simp only [ravelinref01_Mul.l0]
    rw [if_neg (by omega)]
    simp only [Math.poly] at hr ⊢
    exact rmul_l1 7 p (by omega) hp hr k (by omega)
  | n + 1, i, a, b, p, hi, ha, hb, hp, hr, k, hk => by
    obtain ⟨k, rfl⟩ : ∃ m, k = m + 1 := ⟨k - 1, by omega⟩
    simp only [ravelinref01_Mul.l0]
    have e2 : wrap64 ((i : Int) + 1) = ((i + 1 : Nat) : Int) := by unfold wrap64; omega
    have e3 : shr .u8 (b : Int) (i : Int) = ((b / 2 ^ i : Nat) : Int) := by
      unfold shr
      have : min ((i : Int).toNat) IntKind.u8.bits = i := by show min _ 8 = _; omega
      rw [this]; simp
    have hpow : 2 ^ i ≤ 2 ^ 7 := Nat.pow_le_pow_right (by omega) (by omega)
    have hm : a * 2 ^ i < 65536 := Nat.lt_of_le_of_lt (Nat.mul_le_mul (Nat.le_of_lt_succ ha) hpow) (by decide)
    have big : (65536 : Nat) ≤ 4611686018427387904 := by decide
    have e4 : shl .i64 (wrap64 (a : Int)) (i : Int) = ((a * 2 ^ i : Nat) : Int) := by
      unfold shl
      have : min ((i : Int).toNat) IntKind.i64.bits = i := by show min _ 64 = _; omega
      rw [this, wrap64_nat a (by omega)]
      have hc : ((a : Int) * 2 ^ i) = ((a * 2 ^ i : Nat) : Int) := by simp
      rw [hc, IntKind.wrap_i64]; omega
    have hdiv : b / 2 ^ i < 256 := Nat.lt_of_le_of_lt (Nat.div_le_self _ _) hb
    rw [if_pos (by omega), if_pos (by omega), e2, e3, e4, and_u8_one (b / 2 ^ i) hdiv, xor_i64 p (a * 2 ^ i) (Nat.lt_of_lt_of_le hp big) (Nat.lt_of_lt_of_le hm big)]
    have hlt : p ^^^ a * 2 ^ i < 65536 := Nat.xor_lt_two_pow (n := 16) hp hm
    simp only [Math.poly] at hr ⊢
    by_cases h1 : b / 2 ^ i % 2 = 1
    · rw [if_pos ((odd_cast _).2 h1)]; rw [if_pos h1] at hr ⊢
      exact rmul_l0 n (i + 1) a b _ (by omega) ha hb hlt hr k (by omega)
    · rw [if_neg (fun h => h1 ((odd_cast _).1 h))]; rw [if_neg h1] at hr ⊢
      exact rmul_l0 n (i + 1) a b _ (by omega) ha hb hp hr k (by omega)
theorem rmul_f (a b : Nat) (ha : a < 256) (hb : b < 256) (k : Nat) (hk : 18 < k) : ravelinref01_Mul.f k (a : Int) (b : Int) = some ((Math.mul a b : Nat) : Int) := by
  unfold ravelinref01_Mul.f
  have h := rmul_l0 8 0 a b 0 (by omega) ha hb (by omega) (by rw [Math.red_mul b ha]; exact Math.mul_lt ha) k (by omega)
  rw [Math.red_mul b ha] at h
  exact h
theorem rmul_ev (a b : Nat) (ha : a < 256) (hb : b < 256) : Ev (fun k => ravelinref01_Mul.f k (a : Int) (b : Int)) ((Math.mul a b : Nat) : Int) := ⟨19, fun k hk => rmul_f a b ha hb k (by omega)⟩
theorem byte_cast (i : Nat) (hi : i < 256) : ((i : Int)) % 256 = (i : Int) := by omega
theorem next_cast (i : Nat) (hi : i < 65536) : wrap64 ((i : Int) + 1) = ((i + 1 : Nat) : Int) := by unfold wrap64; omega

theorem raround_f (n : Int) : ravelinref01_around.f n = some ((rnd n : Nat) : Int) := by
  unfold ravelinref01_around.f rnd
  rcases tmod_255 n with h | ⟨_, h1, h⟩
  · rw [h, if_neg (by omega)]; congr 1; omega
  · rw [h, if_pos (by omega)]; congr 1; unfold wrap64; omega

theorem rexp_l0 (n : Int) : ∀ (d i : Nat), i + d = rnd n → Ev (fun k => ravelinref01_Exp.l0 k n ((Math.e i : Nat) : Int) (i : Int)) ((Math.e (rnd n) : Nat) : Int)
  | 0, i, hi => by
    refine Ev.step (f := fun k => _) (fun k => by rw [ravelinref01_Exp.l0]) ?_
    rw [raround_f]
    obtain rfl : i = rnd n := by omega
    exact Ev.bind (Ev.now _) (Ev.ite_neg (by omega) (Ev.now _))
  | d + 1, i, hi => by
    have hlt := rnd_lt n
    refine Ev.step (f := fun k => _) (fun k => by rw [ravelinref01_Exp.l0]) ?_
    rw [raround_f]
    refine Ev.bind (Ev.now _) (Ev.ite_pos (by omega) ?_)
    have hmul := rmul_ev (Math.e i) 2 (Math.e_lt i) (by omega)
    rw [Math.mul_two _ (Math.e_lt i)] at hmul
    refine Ev.bind hmul ?_
    rw [show wrap64 ((i : Int) + 1) = ((i + 1 : Nat) : Int) from by unfold wrap64; omega]
    exact rexp_l0 n d (i + 1) (by omega)
theorem rexp_ev (n : Int) : Ev (fun k => ravelinref01_Exp.f k n) ((Math.e (rnd n) : Nat) : Int) := by
  have h := rexp_l0 n (rnd n) 0 (by omega)
  rw [show ((Math.e 0 : Nat) : Int) = 1 from rfl, show ((0 : Nat) : Int) = 0 from rfl] at h
  exact Ev.congr (fun k => by unfold ravelinref01_Exp.f; rfl) h
theorem rnd_nat (i : Nat) (hi : i < 255) : rnd (i : Int) = i := by unfold rnd; omega

theorem rlog_l0 (a m : Nat) (hm : IsLog a m) : ∀ (d i : Nat), i + d = m → Ev (fun k => ravelinref01_Log.l0 k (a : Int) (i : Int)) ((m : Int), (0 : Int))
  | d, i, hi => by
    have h255 := hm.1
    refine Ev.step (f := fun k => _) (fun k => by rw [ravelinref01_Log.l0]) ?_
    have hx := rexp_ev (i : Int)
    rw [rnd_nat i (by omega)] at hx
    refine Ev.ite_pos (by omega) (Ev.bind hx ?_)
    match d, hi with
    | 0, hi =>
      obtain rfl : i = m := by omega
      exact Ev.ite_pos (by rw [hm.2.1]) (Ev.now _)
    | d + 1, hi =>
      have h1 := hm.2.2 i (by omega)
      refine Ev.ite_neg (by omega) ?_
      rw [show wrap64 ((i : Int) + 1) = ((i + 1 : Nat) : Int) from by unfold wrap64; omega]
      exact rlog_l0 a m hm d (i + 1) (by omega)
theorem rlog_l0z : ∀ (d i : Nat), i + d = 255 → Ev (fun k => ravelinref01_Log.l0 k ((0 : Nat) : Int) (i : Int)) ((0 : Int), (3 : Int))
  | 0, i, hi => by
    refine Ev.step (f := fun k => _) (fun k => by rw [ravelinref01_Log.l0]) ?_
    exact Ev.ite_neg (by omega) (Ev.now _)
  | d + 1, i, hi => by
    refine Ev.step (f := fun k => _) (fun k => by rw [ravelinref01_Log.l0]) ?_
    have hx := rexp_ev (i : Int)
    rw [rnd_nat i (by omega)] at hx
    refine Ev.ite_pos (by omega) (Ev.bind hx ?_)
    have h1 := Math.e_ne i
    refine Ev.ite_neg (by omega) ?_
    rw [show wrap64 ((i : Int) + 1) = ((i + 1 : Nat) : Int) from by unfold wrap64; omega]
    exact rlog_l0z d (i + 1) (by omega)
theorem rlog_fl (k : Nat) (a : Int) : ravelinref01_Log.f k a = ravelinref01_Log.l0 k a ((0 : Nat) : Int) := by unfold ravelinref01_Log.f; rw [show ((0 : Nat) : Int) = 0 from rfl]
theorem rlog_ev0 : Ev (fun k => ravelinref01_Log.f k ((0 : Nat) : Int)) ((0 : Int), (3 : Int)) := Ev.congr (fun k => rlog_fl k _) (rlog_l0z 255 0 (by omega))
theorem rlog_ev (a m : Nat) (hm : IsLog a m) : Ev (fun k => ravelinref01_Log.f k (a : Int)) ((m : Int), (0 : Int)) := Ev.congr (fun k => rlog_fl k _) (rlog_l0 a m hm m 0 (by omega))

theorem rpow_l0 (a : Nat) (n : Int) (ha : a < 256) : ∀ (d i : Nat), i + d = rnd n → Ev (fun k => ravelinref01_Pow.l0 k (a : Int) n ((Math.pw a i : Nat) : Int) (i : Int)) (((Math.pw a (rnd n) : Nat) : Int), (0 : Int))
  | 0, i, hi => by
    refine Ev.step (f := fun k => _) (fun k => by rw [ravelinref01_Pow.l0]) ?_
    rw [raround_f]
    obtain rfl : i = rnd n := by omega
    exact Ev.bind (Ev.now _) (Ev.ite_neg (by omega) (Ev.now _))
  | d + 1, i, hi => by
    have hlt := rnd_lt n
    refine Ev.step (f := fun k => _) (fun k => by rw [ravelinref01_Pow.l0]) ?_
    rw [raround_f]
    refine Ev.bind (Ev.now _) (Ev.ite_pos (by omega) ?_)
    refine Ev.bind (rmul_ev (Math.pw a i) a (Math.pw_lt a ha i) ha) ?_
    rw [show wrap64 ((i : Int) + 1) = ((i + 1 : Nat) : Int) from by unfold wrap64; omega, ← Math.pw_succ]
    exact rpow_l0 a n ha d (i + 1) (by omega)
theorem rpow_ev (a : Nat) (n : Int) (ha : a < 256) : Ev (fun k => ravelinref01_Pow.f k (a : Int) n) (powR a n) := by
  unfold powR
  by_cases h1 : n = 0
  · rw [if_pos h1]; exact Ev.congr (fun k => by unfold ravelinref01_Pow.f; rw [if_pos h1]) (Ev.now _)
  · rw [if_neg h1]
    by_cases h0 : a = 0
    · rw [if_pos h0]
      by_cases h2 : n < 0
      · rw [if_pos h2]; exact Ev.congr (fun k => by unfold ravelinref01_Pow.f; rw [if_neg h1, if_pos (by omega), if_pos h2]) (Ev.now _)
      · rw [if_neg h2]; exact Ev.congr (fun k => by unfold ravelinref01_Pow.f; rw [if_neg h1, if_pos (by omega), if_neg h2]) (Ev.now _)
    · rw [if_neg h0]
      refine Ev.congr (f := fun k => ravelinref01_Pow.l0 k (a : Int) n 1 0) (fun k => by unfold ravelinref01_Pow.f; rw [if_neg h1, if_neg (by omega)]) ?_
      have h := rpow_l0 a n ha (rnd n) 0 (by omega)
      rw [show ((Math.pw a 0 : Nat) : Int) = 1 from rfl, show ((0 : Nat) : Int) = 0 from rfl] at h
      exact h

end Go.Proofs.Ytpmhoocigdkhbaa.BrPGfPowers
