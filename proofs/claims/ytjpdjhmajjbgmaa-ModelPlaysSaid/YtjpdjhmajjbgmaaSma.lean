/- Sectors among sectors: the plain part of the model's laws. -/
import Derived.Test.YtjpdjhmajjbgmaaAwm
set_option linter.unusedVariables false
set_option linter.unusedSimpArgs false
namespace Go.Proofs.Ytjpdjhmajjbgmaa.Md
open Go Go.RowKit Res
open Wd (Cmd u8s balloc Rd)
theorem sec_get (L : List Int) (i j : Nat) (hj : j < 16) : (sec L i)[j]? = L[i * 16 + j]? := by
  unfold sec
  rw [List.getElem?_take_of_lt hj, List.getElem?_drop]
theorem splice_get (bs xs : List Int) (o p : Nat) (h : o + xs.length ≤ bs.length) : (splice bs o xs)[p]? = if o ≤ p ∧ p < o + xs.length then xs[p - o]? else bs[p]? := by
  unfold splice
  by_cases h1 : p < o
  · rw [List.getElem?_append_left (by rw [List.length_take]; omega), List.getElem?_take_of_lt h1, if_neg (by omega)]
  · rw [List.getElem?_append_right (by rw [List.length_take]; omega), List.length_take, Nat.min_eq_left (by omega)]
    by_cases h2 : p < o + xs.length
    · rw [List.getElem?_append_left (by omega), if_pos ⟨by omega, h2⟩]
    · rw [List.getElem?_append_right (by omega), List.getElem?_drop, if_neg (by omega)]
      congr 1; omega
theorem ext16 {A B : List Int} (ha : A.length ≤ 16) (hb : B.length ≤ 16) (h : ∀ j, j < 16 → A[j]? = B[j]?) : A = B := by
  apply List.ext_getElem?
  intro j
  by_cases hj : j < 16
  · exact h j hj
  · rw [List.getElem?_eq_none (by omega), List.getElem?_eq_none (by omega)]
theorem sec_le (L : List Int) (i : Nat) : (sec L i).length ≤ 16 := by unfold sec; simp; omega
/-- A sector behind a write. -/
theorem sec_splice (bs xs : List Int) (a k i : Nat) (hx : xs.length = k * 16) (h : a * 16 + k * 16 ≤ bs.length) : sec (splice bs (a * 16) xs) i = if a ≤ i ∧ i < a + k then sec xs (i - a) else sec bs i := by
  have key : ∀ j, j < 16 → (sec (splice bs (a * 16) xs) i)[j]? = (if a ≤ i ∧ i < a + k then sec xs (i - a) else sec bs i)[j]? := fun j hj => by
    rw [sec_get _ _ _ hj, splice_get _ _ _ _ (by omega)]
    by_cases hc : a ≤ i ∧ i < a + k
    · rw [if_pos hc, if_pos (by omega), sec_get _ _ _ hj]
      congr 1
      omega
    · rw [if_neg hc, if_neg (by omega), sec_get _ _ _ hj]
  refine ext16 (sec_le _ _) ?_ key
  split <;> exact sec_le _ _
theorem sec_zero (n i : Nat) (hi : i < n) : sec (List.replicate (n * 16) 0) i = zsec := by
  refine ext16 (sec_le _ _) (by simp [zsec]) (fun j hj => ?_)
  rw [sec_get _ _ _ hj, zsec, List.getElem?_replicate, List.getElem?_replicate, if_pos (by omega), if_pos hj]
/-- Does a write lie within the sectors? -/
def wok (n a cap : Nat) : Prop := 1 ≤ n ∧ n ≤ 8 ∧ a + n ≤ cap
instance (n a cap : Nat) : Decidable (wok n a cap) := by unfold wok; infer_instance
def wcmd (a n : Nat) (xs : List Int) : Cmd := ⟨3, a, 0, n, xs, 0, 0, false⟩
theorem wchk (a n cap : Nat) (xs : List Int) : (wcmd a n xs).chk cap = if wok n a cap then 0 else 2 := by
  unfold Cmd.chk wcmd
  simp only
  rw [if_neg (by omega), if_neg (by omega), if_neg (by omega), if_neg (by omega), if_pos trivial]
  unfold Wd.runE
  by_cases h : wok n a cap
  · rw [if_pos h, if_pos]
    unfold wok at h
    unfold Wd.inRun
    omega
  · rw [if_neg h, if_neg]
    unfold wok at h
    unfold Wd.inRun
    omega
theorem may_free {d : Dk} {ini : Int} (hd : d.kind = 0) (hi : isIn ini) (w : Bool) : d.may ini w = true := by
  unfold Dk.may; rw [if_pos hi, if_pos (.inl hd)]
theorem wgate {d : Dk} {ini : Int} (hd : d.kind = 0) (hi : isIn ini) (a n cap : Nat) (xs : List Int) : gateS d cap ini (wcmd a n xs) = (if wok n a cap then (3, 0, false) else (2, 5, true)) ∧ gateD d cap ini (wcmd a n xs) = d := by
  unfold gateS gateD
  rw [wchk]
  by_cases h : wok n a cap
  · have h0 : ¬ (¬ isIn ini ∨ ¬ (if wok n a cap then (0 : Int) else 2) = 0) := by rw [if_pos h]; simp [hi]
    rw [if_neg h0, if_neg h0, may_free hd hi false, may_free hd hi true, if_pos h]
    exact ⟨by simp [wcmd], by simp [wcmd]⟩
  · have h0 : ¬ isIn ini ∨ ¬ (if wok n a cap then (0 : Int) else 2) = 0 := by rw [if_neg h]; right; decide
    rw [if_pos h0, if_pos h0, if_neg h]
    exact ⟨rfl, rfl⟩
/-- A write to a unit that is not reserved. -/
theorem wdo {d : Dk} {ini : Int} (hd : d.kind = 0) (hi : isIn ini) (a n cap : Nat) (xs bs : List Int) :
    doS d cap bs ini (wcmd a n xs) = (if wok n a cap then (1, 0) else (2, 5)) ∧ doB d cap bs ini (wcmd a n xs) = (if wok n a cap then splice bs (a * 16) xs else bs) ∧ doN d cap ini (wcmd a n xs) = 0 ∧ doX d cap bs ini (wcmd a n xs) = [] ∧ gateD d cap ini (wcmd a n xs) = d := by
  obtain ⟨hs, hg⟩ := wgate hd hi a n cap xs
  by_cases h : wok n a cap
  · rw [if_pos h] at hs
    obtain ⟨h1, h2, h3, h4⟩ := do_k3 (bs := bs) hs rfl
    rw [if_pos h, if_pos h]
    exact ⟨h1, by rw [h2]; simp [wcmd], h3, h4, hg⟩
  · rw [if_neg h] at hs
    obtain ⟨h1, h2, h3, h4⟩ := do_all (bs := bs) hs
    rw [if_neg h, if_neg h]
    exact ⟨h1, h2, h3, h4, hg⟩
/-- What a sector should hold behind two writes. -/
def want (n1 n2 a b : Nat) (x1 x2 : List Int) (i : Nat) : List Int :=
  if wok n2 b 40 ∧ b ≤ i ∧ i < b + n2 then sec x2 (i - b) else if wok n1 a 40 ∧ a ≤ i ∧ i < a + n1 then sec x1 (i - a) else zsec
theorem want_holds (n1 n2 a b : Nat) (x1 x2 : List Int) (h1 : x1.length = n1 * 16) (h2 : x2.length = n2 * 16) (i : Nat) (hi : i < 40) :
    sec (if wok n2 b 40 then splice (if wok n1 a 40 then splice (List.replicate (40 * 16) 0) (a * 16) x1 else List.replicate (40 * 16) 0) (b * 16) x2 else (if wok n1 a 40 then splice (List.replicate (40 * 16) 0) (a * 16) x1 else List.replicate (40 * 16) 0)) i = want n1 n2 a b x1 x2 i := by
  have l1 : ∀ (L : List Int), L.length = 640 → wok n1 a 40 → (splice L (a * 16) x1).length = 640 := fun L hL hw => by
    unfold wok at hw
    rw [length_splice _ _ _ (by rw [hL, h1]; omega), hL]
  have hz : (List.replicate (40 * 16) (0 : Int)).length = 640 := List.length_replicate
  have p1 : sec (if wok n1 a 40 then splice (List.replicate (40 * 16) 0) (a * 16) x1 else List.replicate (40 * 16) 0) i = if wok n1 a 40 ∧ a ≤ i ∧ i < a + n1 then sec x1 (i - a) else zsec := by
    by_cases hw : wok n1 a 40
    · rw [if_pos hw, sec_splice _ _ _ n1 _ h1 (by unfold wok at hw; rw [hz]; omega), sec_zero 40 i hi]
      simp only [hw, true_and]
    · rw [if_neg hw, sec_zero 40 i hi, if_neg (fun h => hw h.1)]
  have pl : (if wok n1 a 40 then splice (List.replicate (40 * 16) 0) (a * 16) x1 else List.replicate (40 * 16) 0).length = 640 := by
    by_cases hw : wok n1 a 40
    · rw [if_pos hw]; exact l1 _ hz hw
    · rw [if_neg hw]; exact hz
  unfold want
  by_cases hw : wok n2 b 40
  · rw [if_pos hw, sec_splice _ _ _ n2 _ h2 (by unfold wok at hw; rw [pl]; omega), p1]
    simp only [hw, true_and]
  · rw [if_neg hw, p1, if_neg (show ¬ (wok n2 b 40 ∧ b ≤ i ∧ i < b + n2) from fun h => hw h.1)]
end Go.Proofs.Ytjpdjhmajjbgmaa.Md
