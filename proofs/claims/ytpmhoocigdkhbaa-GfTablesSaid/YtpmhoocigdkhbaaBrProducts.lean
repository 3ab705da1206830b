/- What the printed functions of one statement come to, over the plain mathematics. Written by Bridge.py (a program of ours). -/
import Derived.Test.YtpmhoocigdkhbaaBits
import Derived.Test.YtpmhoocigdkhbaaPGfProductsx2
set_option linter.unusedVariables false
namespace Go.Proofs.Ytpmhoocigdkhbaa.BrPGfProducts
open Go Go.RowKit Go.Proofs.YtpmhoocigdkhbaaW.PrintWords Go.Proofs.YtpmhoocigdkhbaaW.PrintLast Go.Proofs.YtpmhoocigdkhbaaW.PrintMore Go.Proofs.Ytpmhoocigdkhbaa.Bridge Go.Proofs.Ytpmhoocigdkhbaa.PGfProducts

/-! gf.Mul -/
theorem mulN_b0 : ∀ (n p x : Nat), Math.mulN n 0 p x = p := fun n p x => by rw [Math.mulN_eq, Math.S_zero_b, Nat.xor_zero]
theorem mul_l0 : ∀ (n b p x : Nat), b < 256 → b < 2 ^ n → p < 256 → x < 256 → ∀ k, n < k → gf_Mul.l0 k (b : Int) (p : Int) (x : Int) = some ((Math.mulN n b p x : Nat) : Int)
  | 0, b, p, x, hb, hb2, hp, hx, k, hk => by
    obtain ⟨k, rfl⟩ : ∃ m, k = m + 1 := ⟨k - 1, by omega⟩
    have h0 : b = 0 := by simp at hb2; omega
    subst h0
    simp only [gf_Mul.l0]
    rw [if_neg (by omega)]
    simp only [Math.mulN]
    congr 1
    omega
  | n + 1, b, p, x, hb, hb2, hp, hx, k, hk => by
    obtain ⟨k, rfl⟩ : ∃ m, k = m + 1 := ⟨k - 1, by omega⟩
    by_cases h0 : b = 0
    · subst h0
      simp only [gf_Mul.l0]
      rw [if_neg (by omega), mulN_b0]
      congr 1
      omega
    · simp only [gf_Mul.l0]
      rw [if_pos (by omega)]
      have e2 : ((b : Int) / 2) = ((b / 2 : Nat) : Int) := by omega
      have ex : wrap64 ((x : Int) * 2) = ((x * 2 : Nat) : Int) := by rw [show ((x : Int) * 2) = ((x * 2 : Nat) : Int) from by omega]; exact wrap64_nat _ (by omega)
      have e285 : (285 : Int) = ((285 : Nat) : Int) := rfl
      rw [ex, e2, and_u8_one b hb, e285, xor_i64 p x (by omega) (by omega), xor_i64 (x * 2) 285 (by omega) (by omega)]
      have hb3 : b / 2 < 2 ^ n := by rw [Nat.pow_succ] at hb2; omega
      have hxt := Math.xt_lt x hx
      have hpx : p ^^^ x < 256 := Math.xor_lt hp hx
      simp only [Math.mulN]
      by_cases h1 : b % 2 = 1
      · rw [if_pos ((odd_cast b).2 h1), if_pos h1]
        by_cases h2 : 255 < x * 2
        · rw [if_pos (by omega)]
          have e : Math.xt x = x * 2 ^^^ 285 := if_pos h2
          rw [← e]
          exact mul_l0 n _ _ _ (by omega) hb3 hpx hxt k (by omega)
        · rw [if_neg (by omega)]
          have e : Math.xt x = x * 2 := if_neg h2
          rw [← e]
          exact mul_l0 n _ _ _ (by omega) hb3 hpx hxt k (by omega)
      · rw [if_neg (fun h => h1 ((odd_cast b).1 h)), if_neg h1]
        by_cases h2 : 255 < x * 2
        · rw [if_pos (by omega)]
          have e : Math.xt x = x * 2 ^^^ 285 := if_pos h2
          rw [← e]
          exact mul_l0 n _ _ _ (by omega) hb3 hp hxt k (by omega)
        · rw [if_neg (by omega)]
          have e : Math.xt x = x * 2 := if_neg h2
          rw [← e]
          exact mul_l0 n _ _ _ (by omega) hb3 hp hxt k (by omega)
theorem mul_f (a b : Nat) (ha : a < 256) (hb : b < 256) (k : Nat) (hk : 8 < k) : gf_Mul.f k (a : Int) (b : Int) = some ((Math.mul a b : Nat) : Int) := by
  unfold gf_Mul.f
  rw [wrap64_nat a (by omega), show (0 : Int) = ((0 : Nat) : Int) from rfl, mul_l0 8 b 0 a hb hb (by omega) ha k hk, Math.mulN_eq, Nat.zero_xor]
  rfl
theorem mul_ev (a b : Nat) (ha : a < 256) (hb : b < 256) : Ev (fun k => gf_Mul.f k (a : Int) (b : Int)) ((Math.mul a b : Nat) : Int) := ⟨9, fun k hk => mul_f a b ha hb k (by omega)⟩

theorem add_f (a b : Nat) (ha : a < 256) (hb : b < 256) : gf_Add.f (a : Int) (b : Int) = some ((a ^^^ b : Nat) : Int) := by
  unfold gf_Add.f; rw [xor_u8 a b ha hb]

theorem awake_ev : Ev (fun k => ravelinlaw01_awake.f k) true := by
  refine ⟨9, fun k hk => ?_⟩
  show ravelinlaw01_awake.f k = some true
  unfold ravelinlaw01_awake.f
  have h := mul_f 2 128 (by omega) (by omega) k (by omega)
  rw [show ((2 : Nat) : Int) = 2 from rfl, show ((128 : Nat) : Int) = 128 from rfl] at h
  rw [h, show Math.mul 2 128 = 29 from by decide +kernel]
  have h2 := add_f 5 3 (by omega) (by omega)
  rw [show ((5 : Nat) : Int) = 5 from rfl, show ((3 : Nat) : Int) = 3 from rfl] at h2
  simp only [Option.bind_some]
  rw [if_pos (by rfl), h2]
  rfl

/-! gf.power -/
theorem power_l0 : ∀ (n m a p : Nat), m < 4611686018427387904 → m < 2 ^ n → a < 256 → p < 256 → ∀ k, n + 9 < k → gf_power.l0 k (a : Int) (m : Int) (p : Int) = some ((Math.mul p (Math.pw a m) : Nat) : Int)
  | 0, m, a, p, hm, hm2, ha, hp, k, hk => by
    obtain ⟨k, rfl⟩ : ∃ m, k = m + 1 := ⟨k - 1, by omega⟩
    have h0 : m = 0 := by simp at hm2; omega
    subst h0
    simp only [gf_power.l0]
    rw [if_neg (by omega), Math.pw_zero, Math.mul_one p hp]
  | n + 1, m, a, p, hm, hm2, ha, hp, k, hk => by
    obtain ⟨k, rfl⟩ : ∃ m, k = m + 1 := ⟨k - 1, by omega⟩
    simp only [gf_power.l0]
    by_cases h0 : m = 0
    · subst h0
      rw [if_neg (by omega), Math.pw_zero, Math.mul_one p hp]
    · have e2 : ((m : Int) / 2) = ((m / 2 : Nat) : Int) := by omega
      have hm3 : m / 2 < 2 ^ n := by rw [Nat.pow_succ] at hm2; omega
      rw [if_pos (by omega), e2, and_i64_one m hm, mul_f p a hp ha k (by omega), mul_f a a ha ha k (by omega)]
      simp only [Option.bind_some]
      have key : m = m % 2 + 2 * (m / 2) := by omega
      by_cases h1 : m % 2 = 1
      · rw [if_pos ((odd_cast m).2 h1), power_l0 n _ _ _ (by omega) hm3 (Math.mul_lt ha) (Math.mul_lt hp) k (by omega), Math.pw_sq a _ ha, Math.mul_assoc hp ha (Math.pw_lt a ha _)]
        have e : Math.mul a (Math.pw a (2 * (m / 2))) = Math.pw a m := by
          conv => rhs; rw [key, h1, Math.pw_add a ha, Math.pw_one a ha]
        rw [e]
      · rw [if_neg (fun h => h1 ((odd_cast m).1 h)), power_l0 n _ _ _ (by omega) hm3 (Math.mul_lt ha) hp k (by omega), Math.pw_sq a _ ha]
        have e : 2 * (m / 2) = m := by omega
        rw [e]
theorem power_f (a m : Nat) (ha : a < 256) (hm : m < 4611686018427387904) (k : Nat) (hk : 71 < k) : gf_power.f k (a : Int) (m : Int) = some ((Math.pw a m : Nat) : Int) := by
  unfold gf_power.f
  rw [show (1 : Int) = ((1 : Nat) : Int) from rfl, power_l0 62 m a 1 hm hm ha (by omega) k (by omega), Math.one_mul _ (Math.pw_lt a ha m)]
theorem power_ev (a m : Nat) (ha : a < 256) (hm : m < 4611686018427387904) : Ev (fun k => gf_power.f k (a : Int) (m : Int)) ((Math.pw a m : Nat) : Int) := ⟨72, fun k hk => power_f a m ha hm k (by omega)⟩

/-! gf.Inv -/
theorem inv_ev0 : Ev (fun k => gf_Inv.f k ((0 : Nat) : Int)) ((0 : Int), (3 : Int)) := ⟨0, fun k _ => by show gf_Inv.f k _ = _; unfold gf_Inv.f; rw [if_pos (by rfl)]⟩
theorem inv_ev (a : Nat) (ha : a < 256) (h0 : a ≠ 0) : Ev (fun k => gf_Inv.f k (a : Int)) (((Math.inv a : Nat) : Int), (0 : Int)) := by
  refine ⟨72, fun k hk => ?_⟩
  show gf_Inv.f k _ = _
  unfold gf_Inv.f
  rw [if_neg (by omega), show (254 : Int) = ((254 : Nat) : Int) from rfl, power_f a 254 ha (by omega) k (by omega)]
  rfl

/-! gf.Div -/
theorem div_ev0 (a : Nat) : Ev (fun k => gf_Div.f k (a : Int) ((0 : Nat) : Int)) ((0 : Int), (3 : Int)) := by
  refine Ev.congr (f := fun k => (gf_Inv.f k ((0 : Nat) : Int)).bind fun t => (if t.2 = 0 then ((gf_Mul.f k (a : Int) t.1).bind fun t108 => (some (t108, 0))) else (some (0, t.2)))) (fun k => rfl) ?_
  exact Ev.bind inv_ev0 (Ev.now _)
theorem div_ev (a b : Nat) (ha : a < 256) (hb : b < 256) (h0 : b ≠ 0) : Ev (fun k => gf_Div.f k (a : Int) (b : Int)) (((Math.mul a (Math.inv b) : Nat) : Int), (0 : Int)) := by
  refine Ev.congr (f := fun k => (gf_Inv.f k (b : Int)).bind fun t => (if t.2 = 0 then ((gf_Mul.f k (a : Int) t.1).bind fun t108 => (some (t108, 0))) else (some (0, t.2)))) (fun k => rfl) ?_
  exact Ev.bind (inv_ev b hb h0) (Ev.ite_pos rfl (Ev.bind (mul_ev a _ ha (Math.inv_lt hb)) (Ev.now _)))

/-! ref.Mul -/
theorem rmul_l1 : ∀ (j p : Nat), j ≤ 7 → p < 65536 → Math.red j p < 256 → ∀ k, j < k → ravelinref01_Mul.l1 k (p : Int) ((j : Int) + 7) = some ((Math.red j p : Nat) : Int)
  | 0, p, _, hp, hr, k, hk => by
    obtain ⟨k, rfl⟩ : ∃ m, k = m + 1 := ⟨k - 1, by omega⟩
    simp only [ravelinref01_Mul.l1]
    rw [if_neg (by omega)]
    simp only [Math.red] at hr ⊢
    congr 1
    omega
  | j + 1, p, hj, hp, hr, k, hk => by
    obtain ⟨k, rfl⟩ : ∃ m, k = m + 1 := ⟨k - 1, by omega⟩
    simp only [ravelinref01_Mul.l1]
    have e1 : wrap64 (((j + 1 : Nat) : Int) + 7 - 8) = (j : Int) := by unfold wrap64; omega
    have e2 : wrap64 (((j + 1 : Nat) : Int) + 7 - 1) = (j : Int) + 7 := by unfold wrap64; omega
    have e3 : shr .i64 (p : Int) (((j + 1 : Nat) : Int) + 7) = ((p / 2 ^ (j + 8) : Nat) : Int) := by
      unfold shr
      have : min ((((j + 1 : Nat) : Int) + 7).toNat) IntKind.i64.bits = j + 8 := by show min _ 64 = _; omega
      rw [this]; simp
    have hpow : 2 ^ j ≤ 2 ^ 6 := Nat.pow_le_pow_right (by omega) (by omega)
    have e4 : shl .i64 285 (j : Int) = ((285 * 2 ^ j : Nat) : Int) := by
      unfold shl
      have : min ((j : Int).toNat) IntKind.i64.bits = j := by show min _ 64 = _; omega
      rw [this]
      have hc : ((285 : Int) * 2 ^ j) = ((285 * 2 ^ j : Nat) : Int) := by simp
      rw [hc, IntKind.wrap_i64]; omega
    have hdiv : p / 2 ^ (j + 8) < 65536 := Nat.lt_of_le_of_lt (Nat.div_le_self _ _) hp
    rw [if_pos (by omega), if_pos (by omega), e1, e2, e3, e4, and_i64_one (p / 2 ^ (j + 8)) (by omega), if_pos (show (0 : Int) ≤ (j : Int) by omega), xor_i64 p (285 * 2 ^ j) (by omega) (by omega)]
    have hlt : p ^^^ 285 * 2 ^ j < 65536 := Nat.xor_lt_two_pow (n := 16) hp (by omega)
    simp only [Math.red] at hr ⊢
    by_cases h1 : p / 2 ^ (j + 8) % 2 = 1
    · rw [if_pos ((odd_cast _).2 h1)]; rw [if_pos h1] at hr ⊢
      exact rmul_l1 j _ (by omega) hlt hr k (by omega)
    · rw [if_neg (fun h => h1 ((odd_cast _).1 h))]; rw [if_neg h1] at hr ⊢
      exact rmul_l1 j _ (by omega) hp hr k (by omega)
theorem rmul_l0 : ∀ (n i a b p : Nat), i + n = 8 → a < 256 → b < 256 → p < 65536 → Math.red 7 (Math.poly n i a b p) < 256 → ∀ k, n + 10 < k →
    ravelinref01_Mul.l0 k (a : Int) (b : Int) (p : Int) (i : Int) = some ((Math.red 7 (Math.poly n i a b p) : Nat) : Int)
  | 0, i, a, b, p, hi, ha, hb, hp, hr, k, hk => by
    obtain ⟨k, rfl⟩ : ∃ m, k = m + 1 := ⟨k - 1, by omega⟩
    simp only [ravelinref01_Mul.l0]
    rw [if_neg (by omega)]
    simp only [Math.poly] at hr ⊢
    exact rmul_l1 7 p (by omega) hp hr k (by omega)
  | n + 1, i, a, b, p, hi, ha, hb, hp, hr, k, hk => by
    obtain ⟨k, rfl⟩ : ∃ m, k = m + 1 := ⟨k - 1, by omega⟩
    simp only [ravelinref01_Mul.l0]
    have e2 : wrap64 ((i : Int) + 1) = ((i + 1 : Nat) : Int) := by unfold wrap64; omega
    have e3 : shr .u8 (b : Int) (i : Int) = ((b / 2 ^ i : Nat) : Int) := by
      unfold shr
      have : min ((i : Int).toNat) IntKind.u8.bits = i := by show min _ 8 = _; omega
      rw [this]; simp
    have hpow : 2 ^ i ≤ 2 ^ 7 := Nat.pow_le_pow_right (by omega) (by omega)
    have hm : a * 2 ^ i < 65536 := Nat.lt_of_le_of_lt (Nat.mul_le_mul (Nat.le_of_lt_succ ha) hpow) (by decide)
    have big : (65536 : Nat) ≤ 4611686018427387904 := by decide
    have e4 : shl .i64 (wrap64 (a : Int)) (i : Int) = ((a * 2 ^ i : Nat) : Int) := by
      unfold shl
      have : min ((i : Int).toNat) IntKind.i64.bits = i := by show min _ 64 = _; omega
      rw [this, wrap64_nat a (by omega)]
      have hc : ((a : Int) * 2 ^ i) = ((a * 2 ^ i : Nat) : Int) := by simp
      rw [hc, IntKind.wrap_i64]; omega
    have hdiv : b / 2 ^ i < 256 := Nat.lt_of_le_of_lt (Nat.div_le_self _ _) hb
    rw [if_pos (by omega), if_pos (by omega), e2, e3, e4, and_u8_one (b / 2 ^ i) hdiv, xor_i64 p (a * 2 ^ i) (Nat.lt_of_lt_of_le hp big) (Nat.lt_of_lt_of_le hm big)]
    have hlt : p ^^^ a * 2 ^ i < 65536 := Nat.xor_lt_two_pow (n := 16) hp hm
    simp only [Math.poly] at hr ⊢
    by_cases h1 : b / 2 ^ i % 2 = 1
    · rw [if_pos ((odd_cast _).2 h1)]; rw [if_pos h1] at hr ⊢
      exact rmul_l0 n (i + 1) a b _ (by omega) ha hb hlt hr k (by omega)
    · rw [if_neg (fun h => h1 ((odd_cast _).1 h))]; rw [if_neg h1] at hr ⊢
      exact rmul_l0 n (i + 1) a b _ (by omega) ha hb hp hr k (by omega)
theorem rmul_f (a b : Nat) (ha : a < 256) (hb : b < 256) (k : Nat) (hk : 18 < k) : ravelinref01_Mul.f k (a : Int) (b : Int) = some ((Math.mul a b : Nat) : Int) := by
  unfold ravelinref01_Mul.f
  have h := rmul_l0 8 0 a b 0 (by omega) ha hb (by omega) (by rw [Math.red_mul b ha]; exact Math.mul_lt ha) k (by omega)
  rw [Math.red_mul b ha] at h
  exact h
theorem rmul_ev (a b : Nat) (ha : a < 256) (hb : b < 256) : Ev (fun k => ravelinref01_Mul.f k (a : Int) (b : Int)) ((Math.mul a b : Nat) : Int) := ⟨19, fun k hk => rmul_f a b ha hb k (by omega)⟩
theorem byte_cast (i : Nat) (hi : i < 256) : ((i : Int)) % 256 = (i : Int) := by omega
theorem next_cast (i : Nat) (hi : i < 65536) : wrap64 ((i : Int) + 1) = ((i + 1 : Nat) : Int) := by unfold wrap64; omega

/-! ref.Inv -/
theorem rinv_l0 (a : Nat) (ha : a < 256) (h0 : a ≠ 0) : ∀ (d i : Nat), i + d = Math.inv a → Ev (fun k => ravelinref01_Inv.l0 k (a : Int) (i : Int)) (((Math.inv a : Nat) : Int), (0 : Int))
  | d, i, hi => by
    have hv := Math.inv_lt ha
    refine Ev.step (f := fun k => _) (fun k => by rw [ravelinref01_Inv.l0]) ?_
    rw [byte_cast i (by omega), next_cast i (by omega)]
    refine Ev.ite_pos (by omega) (Ev.bind (rmul_ev a i ha (by omega)) ?_)
    by_cases h1 : Math.mul a i = 1
    · have e := Math.inv_unique ha (by omega) h1
      refine Ev.ite_pos (by omega) ?_
      rw [← e]; exact Ev.now _
    · refine Ev.ite_neg (by omega) ?_
      match d, hi with
      | 0, hi => exact absurd (Math.mul_inv ha h0) (by rw [← hi]; exact h1)
      | d + 1, hi => exact rinv_l0 a ha h0 d (i + 1) (by omega)
theorem rinv_l0z : ∀ (d i : Nat), i + d = 256 → Ev (fun k => ravelinref01_Inv.l0 k ((0 : Nat) : Int) (i : Int)) ((0 : Int), (3 : Int))
  | 0, i, hi => by
    refine Ev.step (f := fun k => _) (fun k => by rw [ravelinref01_Inv.l0]) ?_
    exact Ev.ite_neg (by omega) (Ev.now _)
  | d + 1, i, hi => by
    refine Ev.step (f := fun k => _) (fun k => by rw [ravelinref01_Inv.l0]) ?_
    rw [byte_cast i (by omega), next_cast i (by omega)]
    refine Ev.ite_pos (by omega) (Ev.bind (rmul_ev 0 i (by omega) (by omega)) (Ev.ite_neg ?_ (rinv_l0z d (i + 1) (by omega))))
    rw [Math.zero_mul]; omega
theorem rinv_fl (k : Nat) (a : Int) : ravelinref01_Inv.f k a = ravelinref01_Inv.l0 k a ((1 : Nat) : Int) := by unfold ravelinref01_Inv.f; rw [show ((1 : Nat) : Int) = 1 from rfl]
theorem rinv_ev0 : Ev (fun k => ravelinref01_Inv.f k ((0 : Nat) : Int)) ((0 : Int), (3 : Int)) := Ev.congr (fun k => rinv_fl k _) (rinv_l0z 255 1 (by omega))
theorem rinv_ev (a : Nat) (ha : a < 256) (h0 : a ≠ 0) : Ev (fun k => ravelinref01_Inv.f k (a : Int)) (((Math.inv a : Nat) : Int), (0 : Int)) := by
  have h1 := Math.inv_ne ha h0
  exact Ev.congr (fun k => rinv_fl k _) (rinv_l0 a ha h0 (Math.inv a - 1) 1 (by omega))

/-! ref.Div -/
theorem rdiv_l0 (a b : Nat) (ha : a < 256) (hb : b < 256) (h0 : b ≠ 0) : ∀ (d i : Nat), i + d = Math.mul a (Math.inv b) → Ev (fun k => ravelinref01_Div.l0 k (a : Int) (b : Int) (i : Int)) (((Math.mul a (Math.inv b) : Nat) : Int), (0 : Int))
  | d, i, hi => by
    have hv : Math.mul a (Math.inv b) < 256 := Math.mul_lt ha
    refine Ev.step (f := fun k => _) (fun k => by rw [ravelinref01_Div.l0]) ?_
    refine Ev.ite_pos (by omega) ?_
    refine Ev.step (f := fun k => _) (fun k => by rw [ravelinref01_Div.j1]) ?_
    refine Ev.ite_pos (by rw [bne_iff_ne]; omega) ?_
    rw [byte_cast i (by omega), next_cast i (by omega)]
    refine Ev.bind (rmul_ev b i hb (by omega)) ?_
    by_cases h1 : Math.mul b i = a
    · have e : i = Math.mul a (Math.inv b) := Math.mul_cancel hb h0 (by omega) hv (by rw [h1, Math.mul_div hb h0 ha])
      refine Ev.ite_pos (by omega) ?_
      rw [← e]; exact Ev.now _
    · refine Ev.ite_neg (by omega) ?_
      match d, hi with
      | 0, hi => exact absurd (Math.mul_div hb h0 ha) (by rw [← hi]; exact h1)
      | d + 1, hi => exact rdiv_l0 a b ha hb h0 d (i + 1) (by omega)
theorem rdiv_fl (k : Nat) (a b : Int) : ravelinref01_Div.f k a b = ravelinref01_Div.l0 k a b ((0 : Nat) : Int) := by unfold ravelinref01_Div.f; rw [show ((0 : Nat) : Int) = 0 from rfl]
theorem rdiv_ev0 (a : Nat) : Ev (fun k => ravelinref01_Div.f k (a : Int) ((0 : Nat) : Int)) ((0 : Int), (3 : Int)) := by
  refine Ev.congr (fun k => rdiv_fl k _ _) ?_
  refine Ev.step (f := fun k => _) (fun k => by rw [ravelinref01_Div.l0]) ?_
  refine Ev.ite_pos (by omega) ?_
  refine Ev.step (f := fun k => _) (fun k => by rw [ravelinref01_Div.j1]) ?_
  exact Ev.ite_neg (by decide) (Ev.now _)
theorem rdiv_ev (a b : Nat) (ha : a < 256) (hb : b < 256) (h0 : b ≠ 0) : Ev (fun k => ravelinref01_Div.f k (a : Int) (b : Int)) (((Math.mul a (Math.inv b) : Nat) : Int), (0 : Int)) :=
  Ev.congr (fun k => rdiv_fl k _ _) (rdiv_l0 a b ha hb h0 (Math.mul a (Math.inv b)) 0 (by omega))

end Go.Proofs.Ytpmhoocigdkhbaa.BrPGfProducts
