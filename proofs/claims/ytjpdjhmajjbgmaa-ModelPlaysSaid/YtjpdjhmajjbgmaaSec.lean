/- Sectors compared. -/
import Derived.Test.YtjpdjhmajjbgmaaOwn
import Derived.DeepKeys
namespace Go.Proofs.Ytjpdjhmajjbgmaa.Wd
open Go.RowKit
set_option linter.unusedVariables false
set_option linter.unusedSimpArgs false
theorem run_items {xs ys : List Int} (hx : xs.length = 16) (hy : ys.length = 16) (w : World) : ∀ is : List Nat, (∀ i ∈ is, i < 16) →
    (Op.eqItems 9999 5 1 (u8s xs).toArray (u8s ys).toArray is).run Try.prog w = .ok (is.all fun i => xs.getD i 0 == ys.getD i 0) w
  | [], _ => by simp [Op.eqItems]
  | i :: is, h => by
    have hi : i < 16 := h i (by simp)
    have e1 : (u8s xs).toArray[i * 1]? = some (.int .u8 (xs.getD i 0)) := by
      rw [Nat.mul_one, List.getElem?_toArray, u8s, List.getElem?_map, List.getElem?_eq_getElem (by omega), List.getD_eq_getElem?_getD, List.getElem?_eq_getElem (by omega)]; rfl
    have e2 : (u8s ys).toArray[i * 1]? = some (.int .u8 (ys.getD i 0)) := by
      rw [Nat.mul_one, List.getElem?_toArray, u8s, List.getElem?_map, List.getElem?_eq_getElem (by omega), List.getD_eq_getElem?_getD, List.getElem?_eq_getElem (by omega)]; rfl
    have p1 := run_part_plain (P := Try.prog) w (e := 5) (by kernel_rfl) e1
    have p2 := run_part_plain (P := Try.prog) w (e := 5) (by kernel_rfl) e2
    have p3 := run_equalIn_int (P := Try.prog) w 9998 5 .u8 .u8 (xs.getD i 0) (ys.getD i 0) Try.underlying5
    have ih := run_items hx hy w is (fun j hj => h j (by simp [hj]))
    simp only [Op.eqItems, Sem.run_bind, p1, p2, p3, Result.andThen_ok, List.all_cons]
    cases hb : (xs.getD i 0 == ys.getD i 0)
    · simp
    · simp [ih]
set_option maxRecDepth 100000 in
theorem eq_sec {xs ys : List Int} (hx : xs.length = 16) (hy : ys.length = 16) (w : World) :
    (Op.equalIn 10000 24 (.agg (u8s xs).toArray) (.agg (u8s ys).toArray)).run Try.prog w = .ok (decide (xs = ys)) w := by
  obtain ⟨i5, hi5⟩ : ∃ i, Try.prog.info? 5 = some i := ⟨_, rfl⟩
  have h := run_items hx hy w (List.range 16) (fun i hi => List.mem_range.1 hi)
  have e : ((List.range 16).all fun i => xs.getD i 0 == ys.getD i 0) = decide (xs = ys) := by
    by_cases c : xs = ys
    · subst c; rw [decide_eq_true rfl]; simp
    · rw [decide_eq_false c, Bool.eq_false_iff]
      intro hall
      rw [List.all_eq_true] at hall
      apply c
      apply List.ext_getElem?
      intro i
      by_cases hi : i < 16
      · have := hall i (List.mem_range.2 hi)
        rw [beq_iff_eq, List.getD_eq_getElem?_getD, List.getD_eq_getElem?_getD, List.getElem?_eq_getElem (by omega), List.getElem?_eq_getElem (by omega)] at this
        rw [List.getElem?_eq_getElem (by omega), List.getElem?_eq_getElem (by omega)]
        exact congrArg some this
      · rw [List.getElem?_eq_none (by omega), List.getElem?_eq_none (by omega)]
  rw [e] at h
  have := run_equalIn_array (P := Try.prog) w 9999 (u8s xs).toArray (u8s ys).toArray (t := 24) (n := 16) (e := 5) Try.underlying24 hi5
  have hc : Try.prog.cellsOf 5 = 1 := by kernel_rfl
  rw [hc] at this
  exact this.trans h
theorem eqGuard41 : Try.prog.eqGuardType Try.prog.depth 24 = false := by kernel_rfl
theorem Rd.at {w W : World} {b off n cap : Nat} {bs : List Int} (h : Rd w (.slice (some ⟨b, off, none⟩) n cap) n 16 (u8s bs)) (hW : Below w.heap.size w W) {i : Nat} (hi : i < n) : W.rangeAt b (off + i * 16) (u8s ((bs.drop (i * 16)).take 16)) := by
  obtain ⟨hl, A, cp, hv, _, _, _, h2⟩ := h
  obtain ⟨b', o', hA, hbl, hx⟩ := h2 (by omega)
  injection hv with hA2
  rw [← hA2] at hA
  injection hA with hA
  injection hA with q1 q2
  subst q1; subst q2
  intro j v hv
  have hlen : (u8s ((bs.drop (i * 16)).take 16)).length ≤ 16 := by unfold u8s; simp; omega
  have hj : j < 16 := by have := (List.getElem?_eq_some_iff.1 hv).1; omega
  rw [bcell hW _ _ hbl, Nat.add_assoc]
  apply hx
  unfold u8s at hv ⊢
  rw [List.getElem?_map, List.getElem?_take_of_lt hj, List.getElem?_drop] at hv
  rw [List.getElem?_map]
  exact hv
end Go.Proofs.Ytjpdjhmajjbgmaa.Wd
