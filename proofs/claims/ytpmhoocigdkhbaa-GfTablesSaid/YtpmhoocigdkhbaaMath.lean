/- Plain mathematics of the field of 256 elements, over Nat: products by shift and xor, the same by whole polynomials, powers, inverses, two equations. No program in sight. -/
namespace Go.Proofs.Ytpmhoocigdkhbaa.Math

/-- x times the element 2. -/
def xt (x : Nat) : Nat := if 255 < x * 2 then x * 2 ^^^ 285 else x * 2
theorem xt_lt : ∀ x, x < 256 → xt x < 256 := by decide +kernel
theorem xt_xor : ∀ x, x < 256 → ∀ y, y < 256 → xt (x ^^^ y) = xt x ^^^ xt y := by decide +kernel
theorem xt_zero : xt 0 = 0 := rfl
theorem xor_lt {x y : Nat} (hx : x < 256) (hy : y < 256) : x ^^^ y < 256 := Nat.xor_lt_two_pow (n := 8) hx hy
theorem xor_half (b c : Nat) : (b ^^^ c) / 2 = b / 2 ^^^ c / 2 := by
  have := Nat.shiftRight_xor_distrib (a := b) (b := c) (i := 1)
  simpa [Nat.shiftRight_eq_div_pow] using this
theorem xor_odd (b c : Nat) : (b ^^^ c) % 2 = (b % 2 + c % 2) % 2 := by
  have h := Nat.xor_mod_two_pow (a := b) (b := c) (n := 1)
  simp only [Nat.pow_one] at h
  rw [h]
  rcases Nat.mod_two_eq_zero_or_one b with hb | hb <;> rcases Nat.mod_two_eq_zero_or_one c with hc | hc <;> simp [hb, hc]
theorem xor_right_comm (a b c : Nat) : (a ^^^ b) ^^^ c = (a ^^^ c) ^^^ b := by rw [Nat.xor_assoc, Nat.xor_comm b c, ← Nat.xor_assoc]
theorem xor_four (a b c d : Nat) : (a ^^^ b) ^^^ (c ^^^ d) = (a ^^^ c) ^^^ (b ^^^ d) := by
  rw [Nat.xor_assoc, ← Nat.xor_assoc b c d, Nat.xor_comm b c, Nat.xor_assoc c b d, ← Nat.xor_assoc]
theorem xor_cancel (a b : Nat) : (a ^^^ b) ^^^ b = a := by rw [Nat.xor_assoc, Nat.xor_self, Nat.xor_zero]
theorem xor_eq_iff {a b c : Nat} : a ^^^ b = c ↔ a = c ^^^ b := by
  constructor
  · intro h; rw [← h, xor_cancel]
  · intro h; rw [h, xor_cancel]

/-- The sum of x times 2 to the power i over the bits i of b, n of them. -/
def S : Nat → Nat → Nat → Nat
  | 0, _, _ => 0
  | n + 1, b, x => (if b % 2 = 1 then x else 0) ^^^ S n (b / 2) (xt x)
theorem S_lt : ∀ (n b x : Nat), x < 256 → S n b x < 256
  | 0, _, _, _ => by simp [S]
  | n + 1, b, x, hx => by
    unfold S
    refine xor_lt ?_ (S_lt n _ _ (xt_lt x hx))
    split <;> omega
theorem S_zero_b : ∀ (n x : Nat), S n 0 x = 0
  | 0, _ => rfl
  | n + 1, x => by unfold S; simp [S_zero_b n]
theorem S_zero_x : ∀ (n b : Nat), S n b 0 = 0
  | 0, _ => rfl
  | n + 1, b => by unfold S; rw [xt_zero, S_zero_x n]; simp
theorem S_xor_b : ∀ (n b c x : Nat), S n (b ^^^ c) x = S n b x ^^^ S n c x
  | 0, _, _, _ => by simp [S]
  | n + 1, b, c, x => by
    unfold S
    rw [xor_half, S_xor_b n, xor_odd, xor_four]
    congr 1
    rcases Nat.mod_two_eq_zero_or_one b with hb | hb <;> rcases Nat.mod_two_eq_zero_or_one c with hc | hc <;> simp [hb, hc]
theorem S_xor_x : ∀ (n b x y : Nat), x < 256 → y < 256 → S n b (x ^^^ y) = S n b x ^^^ S n b y
  | 0, _, _, _, _, _ => by simp [S]
  | n + 1, b, x, y, hx, hy => by
    unfold S
    rw [xt_xor x hx y hy, S_xor_x n _ _ _ (xt_lt x hx) (xt_lt y hy), xor_four]
    congr 1
    split <;> simp
theorem xt_S : ∀ (n b x : Nat), x < 256 → xt (S n b x) = S n b (xt x)
  | 0, _, _, _ => rfl
  | n + 1, b, x, hx => by
    unfold S
    rw [xt_xor _ (by split <;> omega) _ (S_lt n _ _ (xt_lt x hx)), xt_S n _ _ (xt_lt x hx)]
    congr 1
    split <;> simp [xt_zero]
theorem S_S : ∀ (n b m c x : Nat), x < 256 → S n b (S m c x) = S m c (S n b x)
  | 0, _, _, _, _, _ => by simp [S, S_zero_x]
  | n + 1, b, m, c, x, hx => by
    rw [S, xt_S m c x hx, S_S n _ m c _ (xt_lt x hx), S, S_xor_x m c _ _ (by split <;> omega) (S_lt n _ _ (xt_lt x hx))]
    congr 1
    split <;> simp [S_zero_x]

/-- The product. -/
def mul (a b : Nat) : Nat := S 8 b a
theorem mul_lt {a b : Nat} (ha : a < 256) : mul a b < 256 := S_lt _ _ _ ha
theorem mul_right_comm {a : Nat} (b c : Nat) (ha : a < 256) : mul (mul a b) c = mul (mul a c) b := S_S 8 c 8 b a ha
theorem one_mul : ∀ b, b < 256 → mul 1 b = b := by decide +kernel
theorem mul_one : ∀ a, a < 256 → mul a 1 = a := by decide +kernel
theorem mul_two : ∀ a, a < 256 → mul a 2 = xt a := by decide +kernel
theorem mul_comm {b c : Nat} (hb : b < 256) (hc : c < 256) : mul b c = mul c b := by
  have h := mul_right_comm (a := 1) b c (by omega)
  rwa [one_mul b hb, one_mul c hc] at h
theorem mul_assoc {a b c : Nat} (ha : a < 256) (hb : b < 256) (_ : c < 256) : mul (mul a b) c = mul a (mul b c) := by
  rw [mul_comm ha (mul_lt hb), mul_right_comm c a hb, mul_comm hb ha]
theorem mul_xor (a b c : Nat) : mul a (b ^^^ c) = mul a b ^^^ mul a c := S_xor_b 8 b c a
theorem xor_mul {a b : Nat} (c : Nat) (ha : a < 256) (hb : b < 256) : mul (a ^^^ b) c = mul a c ^^^ mul b c := S_xor_x 8 c a b ha hb
theorem mul_zero (a : Nat) : mul a 0 = 0 := S_zero_b 8 a
theorem zero_mul (b : Nat) : mul 0 b = 0 := S_zero_x 8 b

/-- Powers. -/
def pw (a : Nat) : Nat → Nat
  | 0 => 1
  | n + 1 => mul (pw a n) a
theorem pw_lt (a : Nat) (ha : a < 256) : ∀ n, pw a n < 256
  | 0 => by simp [pw]
  | n + 1 => mul_lt (pw_lt a ha n)
theorem pw_zero (a : Nat) : pw a 0 = 1 := rfl
theorem pw_succ (a n : Nat) : pw a (n + 1) = mul (pw a n) a := rfl
theorem pw_one (a : Nat) (ha : a < 256) : pw a 1 = a := by rw [pw_succ, pw_zero, one_mul a ha]
theorem pw_add (a : Nat) (ha : a < 256) (m : Nat) : ∀ n, pw a (m + n) = mul (pw a m) (pw a n)
  | 0 => (mul_one _ (pw_lt a ha m)).symm
  | n + 1 => by
    show mul (pw a (m + n)) a = _
    rw [pw_add a ha m n, pw_succ, mul_assoc (pw_lt a ha m) (pw_lt a ha n) ha]
theorem pw_mul (a : Nat) (ha : a < 256) (m : Nat) : ∀ n, pw (pw a m) n = pw a (m * n)
  | 0 => rfl
  | n + 1 => by rw [pw_succ, pw_mul a ha m n, Nat.mul_succ, pw_add a ha]
theorem one_pw : ∀ n, pw 1 n = 1
  | 0 => rfl
  | n + 1 => by rw [pw_succ, one_pw n]; decide
theorem pw_sq (a n : Nat) (ha : a < 256) : pw (mul a a) n = pw a (2 * n) := by
  rw [← pw_mul a ha 2 n]
  have : pw a 2 = mul a a := by rw [pw_succ, pw_one a ha]
  rw [this]
theorem zero_pw (n : Nat) : pw 0 (n + 1) = 0 := by rw [pw_succ, mul_zero]

/-- 2 to the power n. -/
def e : Nat → Nat
  | 0 => 1
  | n + 1 => xt (e n)
theorem e_lt : ∀ n, e n < 256
  | 0 => by simp [e]
  | n + 1 => xt_lt _ (e_lt n)
theorem pw_two : ∀ n, pw 2 n = e n
  | 0 => rfl
  | n + 1 => by rw [pw_succ, pw_two n, mul_two _ (e_lt n)]; rfl
def tab : Nat → Nat → List Nat
  | 0, _ => []
  | n + 1, x => x :: tab n (xt x)
theorem tab_mem : ∀ (n i : Nat) (a : Nat), a ∈ tab n (e i) → ∃ k, i ≤ k ∧ k < i + n ∧ e k = a
  | 0, _, _, h => by simp [tab] at h
  | n + 1, i, a, h => by
    simp only [tab, List.mem_cons] at h
    rcases h with h | h
    · exact ⟨i, Nat.le_refl _, by omega, h.symm⟩
    · obtain ⟨k, h1, h2, h3⟩ := tab_mem n (i + 1) a h
      exact ⟨k, by omega, by omega, h3⟩
theorem tab_all : ∀ a, a < 256 → a ≠ 0 → (tab 255 1).contains a = true := by decide +kernel
theorem e_255 : e 255 = 1 := by decide +kernel
theorem log_ex (a : Nat) (ha : a < 256) (h0 : a ≠ 0) : ∃ k, k < 255 ∧ e k = a := by
  have h := tab_all a ha h0
  rw [List.contains_iff_mem] at h
  obtain ⟨k, _, h2, h3⟩ := tab_mem 255 0 a h
  exact ⟨k, by omega, h3⟩
theorem pw_255 (a : Nat) (ha : a < 256) (h0 : a ≠ 0) : pw a 255 = 1 := by
  obtain ⟨k, _, rfl⟩ := log_ex a ha h0
  rw [← pw_two, pw_mul 2 (by omega), Nat.mul_comm, ← pw_mul 2 (by omega), pw_two, e_255, one_pw]
theorem pw_mod (a : Nat) (ha : a < 256) (h0 : a ≠ 0) (n : Nat) : pw a n = pw a (n % 255) := by
  conv => lhs; rw [← Nat.div_add_mod n 255]
  rw [pw_add a ha, ← pw_mul a ha, pw_255 a ha h0, one_pw, one_mul _ (pw_lt a ha _)]
theorem e_mod (n : Nat) : e n = e (n % 255) := by rw [← pw_two, pw_mod 2 (by omega) (by omega), pw_two]
theorem e_add (m n : Nat) : e (m + n) = mul (e m) (e n) := by rw [← pw_two, pw_add 2 (by omega), pw_two, pw_two]
theorem e_ne (n : Nat) : e n ≠ 0 := by
  intro h
  have h1 : pw (e n) 255 = 1 := by rw [← pw_two, pw_mul 2 (by omega), Nat.mul_comm, ← pw_mul 2 (by omega), pw_two, e_255, one_pw]
  rw [h] at h1
  exact absurd h1 (by decide +kernel)

/-- One over a. -/
def inv (a : Nat) : Nat := pw a 254
theorem inv_lt {a : Nat} (ha : a < 256) : inv a < 256 := pw_lt a ha _
theorem mul_inv {a : Nat} (ha : a < 256) (h0 : a ≠ 0) : mul a (inv a) = 1 := by
  rw [mul_comm ha (inv_lt ha)]
  exact pw_255 a ha h0
theorem inv_mul {a : Nat} (ha : a < 256) (h0 : a ≠ 0) : mul (inv a) a = 1 := pw_255 a ha h0
theorem mul_cancel {a b c : Nat} (ha : a < 256) (h0 : a ≠ 0) (hb : b < 256) (hc : c < 256) (h : mul a b = mul a c) : b = c := by
  have h1 : mul (inv a) (mul a b) = mul (inv a) (mul a c) := by rw [h]
  rwa [← mul_assoc (inv_lt ha) ha hb, ← mul_assoc (inv_lt ha) ha hc, inv_mul ha h0, one_mul b hb, one_mul c hc] at h1
theorem mul_div {a b : Nat} (ha : a < 256) (h0 : a ≠ 0) (hb : b < 256) : mul a (mul b (inv a)) = b := by
  rw [mul_comm hb (inv_lt ha), ← mul_assoc ha (inv_lt ha) hb, mul_inv ha h0, one_mul b hb]
theorem mul_ne_zero {a b : Nat} (ha : a < 256) (hb : b < 256) (h0 : a ≠ 0) (h1 : b ≠ 0) : mul a b ≠ 0 := by
  intro h
  exact h1 (mul_cancel ha h0 hb (by omega) (by rw [h, mul_zero]))
theorem inv_unique {a b : Nat} (ha : a < 256) (hb : b < 256) (h : mul a b = 1) : b = inv a := by
  have h0 : a ≠ 0 := by rintro rfl; rw [zero_mul] at h; omega
  exact mul_cancel ha h0 hb (inv_lt ha) (by rw [h, mul_inv ha h0])
theorem inv_ne {a : Nat} (ha : a < 256) (h0 : a ≠ 0) : inv a ≠ 0 := by
  intro h
  have h1 := mul_inv ha h0
  rw [h, mul_zero] at h1
  omega
theorem inv_e (k : Nat) (h : k ≤ 255) : inv (e k) = e (255 - k) := by
  refine (inv_unique (e_lt _) (e_lt _) ?_).symm
  rw [← e_add, Nat.add_sub_cancel' h, e_255]

/-- The product by whole polynomials, and the rest by the modulus. -/
def red : Nat → Nat → Nat
  | 0, p => p
  | j + 1, p => red j (if p / 2 ^ (j + 8) % 2 = 1 then p ^^^ 285 * 2 ^ j else p)
theorem bit_xor (p q n : Nat) : (p ^^^ q) / 2 ^ n % 2 = (p / 2 ^ n % 2 + q / 2 ^ n % 2) % 2 := by
  rw [← Nat.shiftRight_eq_div_pow, Nat.shiftRight_xor_distrib, xor_odd, Nat.shiftRight_eq_div_pow, Nat.shiftRight_eq_div_pow]
theorem red_xor : ∀ (j p q : Nat), red j (p ^^^ q) = red j p ^^^ red j q
  | 0, _, _ => rfl
  | j + 1, p, q => by
    unfold red
    rw [← red_xor j, bit_xor]
    congr 1
    rcases Nat.mod_two_eq_zero_or_one (p / 2 ^ (j + 8)) with hb | hb <;> rcases Nat.mod_two_eq_zero_or_one (q / 2 ^ (j + 8)) with hc | hc <;> simp only [hb, hc]
    · simp
    · simp [Nat.xor_assoc]
    · simp [xor_right_comm]
    · simp only [Nat.reduceAdd, Nat.reduceMod, if_true]
      rw [if_neg (by omega), xor_four, Nat.xor_self, Nat.xor_zero]
def xti : Nat → Nat → Nat
  | 0, a => a
  | n + 1, a => xt (xti n a)
theorem red_shift : ∀ i, i < 8 → ∀ a, a < 256 → red 7 (a * 2 ^ i) = xti i a := by decide +kernel
/-- The reference's first loop: from bit i on. -/
def poly : Nat → Nat → Nat → Nat → Nat → Nat
  | 0, _, _, _, p => p
  | n + 1, i, a, b, p => poly n (i + 1) a b (if b / 2 ^ i % 2 = 1 then p ^^^ a * 2 ^ i else p)
theorem red_poly : ∀ (n i a b p : Nat), i + n ≤ 8 → a < 256 → red 7 (poly n i a b p) = red 7 p ^^^ S n (b / 2 ^ i) (xti i a)
  | 0, _, _, _, _, _, _ => by simp [poly, S]
  | n + 1, i, a, b, p, hi, ha => by
    unfold poly
    rw [red_poly n (i + 1) a b _ (by omega) ha, S]
    have h2 : b / 2 ^ (i + 1) = b / 2 ^ i / 2 := by rw [Nat.pow_succ, Nat.div_div_eq_div_mul]
    rw [h2, ← Nat.xor_assoc]
    show _ ^^^ S n _ (xt (xti i a)) = _
    congr 1
    split
    · rw [red_xor, red_shift i (by omega) a ha]
    · simp
theorem red_mul {a : Nat} (b : Nat) (ha : a < 256) : red 7 (poly 8 0 a b 0) = mul a b := by
  rw [red_poly 8 0 a b 0 (by omega) ha]
  show red 7 0 ^^^ S 8 (b / 2 ^ 0) a = S 8 b a
  rw [Nat.pow_zero, Nat.div_one, show red 7 0 = 0 from by decide +kernel, Nat.zero_xor]
theorem poly_lt : ∀ (n i a b p : Nat), i + n ≤ 8 → a < 256 → p < 65536 → poly n i a b p < 65536
  | 0, _, _, _, _, _, _, hp => hp
  | n + 1, i, a, b, p, hi, ha, hp => by
    unfold poly
    refine poly_lt n (i + 1) a b _ (by omega) ha ?_
    split
    · refine Nat.xor_lt_two_pow (n := 16) hp ?_
      have : 2 ^ i ≤ 2 ^ 7 := Nat.pow_le_pow_right (by omega) (by omega)
      calc a * 2 ^ i ≤ 255 * 2 ^ 7 := Nat.mul_le_mul (by omega) this
        _ < 2 ^ 16 := by decide
    · exact hp
theorem red_lt : ∀ (j p : Nat), j ≤ 7 → p < 65536 → red j p < 65536
  | 0, _, _, hp => hp
  | j + 1, p, hj, hp => by
    unfold red
    refine red_lt j _ (by omega) ?_
    split
    · refine Nat.xor_lt_two_pow (n := 16) hp ?_
      have : 2 ^ j ≤ 2 ^ 6 := Nat.pow_le_pow_right (by omega) (by omega)
      calc 285 * 2 ^ j ≤ 285 * 2 ^ 6 := Nat.mul_le_mul (by omega) this
        _ < 2 ^ 16 := by decide
    · exact hp

/-- Go's first loop. -/
def mulN : Nat → Nat → Nat → Nat → Nat
  | 0, _, p, _ => p
  | n + 1, b, p, x => mulN n (b / 2) (if b % 2 = 1 then p ^^^ x else p) (xt x)
theorem mulN_eq : ∀ (n b p x : Nat), mulN n b p x = p ^^^ S n b x
  | 0, _, _, _ => by simp [mulN, S]
  | n + 1, b, p, x => by
    unfold mulN S
    rw [mulN_eq n]
    split
    · rw [Nat.xor_assoc]
    · simp

/-- Two equations: det is not 0. -/
def det (a b c d : Nat) : Nat := mul a d ^^^ mul b c
theorem xor_eq_zero {a b : Nat} : a ^^^ b = 0 ↔ a = b := by
  constructor
  · intro h; have := xor_eq_iff.1 h; rwa [Nat.zero_xor] at this
  · rintro rfl; exact Nat.xor_self a
def solX (a b c d x y : Nat) : Nat := mul (inv (det a b c d)) (mul d x ^^^ mul b y)
def solY (a b c d x y : Nat) : Nat := mul (inv (det a b c d)) (mul a y ^^^ mul c x)
section
variable {a b c d x y f g : Nat} (ha : a < 256) (hb : b < 256) (hc : c < 256) (hd : d < 256) (hx : x < 256) (hy : y < 256) (hf : f < 256) (hg : g < 256)
include ha hb in
theorem det_lt : det a b c d < 256 := xor_lt (mul_lt ha) (mul_lt hb)
include ha hb hc hd
include hx hy in
/-- What solves both equations is the one answer. -/
theorem sol_unique (h0 : det a b c d ≠ 0) (h1 : mul a x ^^^ mul b y = f) (h2 : mul c x ^^^ mul d y = g) : x = solX a b c d f g ∧ y = solY a b c d f g := by
  have hD := det_lt (c := c) (d := d) ha hb
  have key1 : mul d f ^^^ mul b g = mul (det a b c d) x := by
    rw [← h1, ← h2, mul_xor, mul_xor, det, xor_mul x (mul_lt ha) (mul_lt hb)]
    rw [mul_assoc ha hd hx, mul_assoc hb hc hx]
    have e1 : mul d (mul a x) = mul a (mul d x) := by rw [← mul_assoc hd ha hx, mul_comm hd ha, mul_assoc ha hd hx]
    have e2 : mul b (mul d y) = mul d (mul b y) := by rw [← mul_assoc hb hd hy, mul_comm hb hd, mul_assoc hd hb hy]
    rw [e1, e2, xor_four, Nat.xor_self, Nat.xor_zero]
  have key2 : mul a g ^^^ mul c f = mul (det a b c d) y := by
    rw [← h1, ← h2, mul_xor, mul_xor, det, xor_mul y (mul_lt ha) (mul_lt hb)]
    rw [mul_assoc ha hd hy, mul_assoc hb hc hy]
    have e1 : mul c (mul a x) = mul a (mul c x) := by rw [← mul_assoc hc ha hx, mul_comm hc ha, mul_assoc ha hc hx]
    have e2 : mul c (mul b y) = mul b (mul c y) := by rw [← mul_assoc hc hb hy, mul_comm hc hb, mul_assoc hb hc hy]
    rw [e1, e2, xor_four, Nat.xor_self, Nat.zero_xor]
  constructor
  · rw [solX, key1, ← mul_assoc (inv_lt hD) hD hx, inv_mul hD h0, one_mul x hx]
  · rw [solY, key2, ← mul_assoc (inv_lt hD) hD hy, inv_mul hD h0, one_mul y hy]
include hf hg in
/-- And it solves them. -/
theorem sol_solves (h0 : det a b c d ≠ 0) : mul a (solX a b c d f g) ^^^ mul b (solY a b c d f g) = f ∧ mul c (solX a b c d f g) ^^^ mul d (solY a b c d f g) = g := by
  have hD := det_lt (c := c) (d := d) ha hb
  have hi := inv_lt hD
  have m : ∀ {u v : Nat}, u < 256 → v < 256 → mul u (mul (inv (det a b c d)) v) = mul (inv (det a b c d)) (mul u v) := fun {u v} hu hv => by
    rw [← mul_assoc hu hi hv, mul_comm hu hi, mul_assoc hi hu hv]
  have l1 : mul d f ^^^ mul b g < 256 := xor_lt (mul_lt hd) (mul_lt hb)
  have l2 : mul a g ^^^ mul c f < 256 := xor_lt (mul_lt ha) (mul_lt hc)
  have sw : ∀ {u v w : Nat}, u < 256 → v < 256 → w < 256 → mul u (mul v w) = mul v (mul u w) := fun {u v w} hu hv hw => by
    rw [← mul_assoc hu hv hw, mul_comm hu hv, mul_assoc hv hu hw]
  constructor
  · rw [solX, solY, m ha l1, m hb l2, ← mul_xor, mul_xor a, mul_xor b, sw hb ha hg, Nat.xor_assoc, ← Nat.xor_assoc (mul a (mul b g)), Nat.xor_self, Nat.zero_xor]
    rw [← mul_assoc ha hd hf, ← mul_assoc hb hc hf, ← xor_mul f (mul_lt ha) (mul_lt hb)]
    show mul _ (mul (det a b c d) f) = f
    rw [← mul_assoc hi hD hf, inv_mul hD h0, one_mul f hf]
  · rw [solX, solY, m hc l1, m hd l2, ← mul_xor, mul_xor c, mul_xor d, sw hc hd hf, Nat.xor_comm (mul d (mul c f)), Nat.xor_comm (mul d (mul a g)), ← Nat.xor_assoc, xor_cancel]
    rw [sw hd ha hg, ← mul_assoc hc hb hg, ← mul_assoc ha hd hg, mul_comm hc hb, ← xor_mul g (mul_lt hb) (mul_lt ha), Nat.xor_comm]
    show mul _ (mul (det a b c d) g) = g
    rw [← mul_assoc hi hD hg, inv_mul hD h0, one_mul g hg]
end

end Go.Proofs.Ytpmhoocigdkhbaa.Math
