/- Sectors compared. -/
import Derived.Test.YtlkibkemmmppcaaOwn
import Derived.DeepKeys
namespace Go.Proofs.Ytlkibkemmmppcaa.Wd
open Go.RowKit
set_option linter.unusedVariables false
set_option linter.unusedSimpArgs false
theorem run_items {xs ys : List Int} (hx : xs.length = 16) (hy : ys.length = 16) (w : World) : ∀ is : List Nat, (∀ i ∈ is, i < 16) →
    (Op.eqItems 9999 5 1 (u8s xs).toArray (u8s ys).toArray is).run Try.prog w = .ok (is.all fun i => xs.getD i 0 == ys.getD i 0) w
  | [], _ => by simp [Op.eqItems]
  | i :: is, h => by
    have hi : i < 16 := h i (by simp)
    have e1 : (u8s xs).toArray[i * 1]? = some (.int .u8 (xs.getD i 0)) := by
      rw [Nat.mul_one, List.getElem?_toArray, u8s, List.getElem?_map, List.getElem?_eq_getElem (by omega), List.getD_eq_getElem?_getD, List.getElem?_eq_getElem (by omega)]; rfl
    have e2 : (u8s ys).toArray[i * 1]? = some (.int .u8 (ys.getD i 0)) := by
      rw [Nat.mul_one, List.getElem?_toArray, u8s, List.getElem?_map, List.getElem?_eq_getElem (by omega), List.getD_eq_getElem?_getD, List.getElem?_eq_getElem (by omega)]; rfl
    have p1 := run_part_plain (P := Try.prog) w (e := 5) (by kernel_rfl) e1
    have p2 := run_part_plain (P := Try.prog) w (e := 5) (by kernel_rfl) e2
    have p3 := run_equalIn_int (P := Try.prog) w 9998 5 .u8 .u8 (xs.getD i 0) (ys.getD i 0) Try.underlying5
    have ih := run_items hx hy w is (fun j hj => h j (by simp [hj]))
    simp only [Op.eqItems, Sem.run_bind, p1, p2, p3, Result.andThen_ok, List.all_cons]
    cases hb : (xs.getD i 0 == ys.getD i 0)
    · simp
    · simp [ih]
set_option maxRecDepth 100000 in
theorem eq_sec {xs ys : List Int} (hx : xs.length = 16) (hy : ys.length = 16) (w : World) :
    (Op.equalIn 10000 41 (.agg (u8s xs).toArray) (.agg (u8s ys).toArray)).run Try.prog w = .ok (decide (xs = ys)) w := by
  obtain ⟨i5, hi5⟩ : ∃ i, Try.prog.info? 5 = some i := ⟨_, rfl⟩
  have h := run_items hx hy w (List.range 16) (fun i hi => List.mem_range.1 hi)
  have e : ((List.range 16).all fun i => xs.getD i 0 == ys.getD i 0) = decide (xs = ys) := by
    by_cases c : xs = ys
    · subst c; rw [decide_eq_true rfl]; simp
    · rw [decide_eq_false c, Bool.eq_false_iff]
      intro hall
      rw [List.all_eq_true] at hall
      apply c
      apply List.ext_getElem?
      intro i
      by_cases hi : i < 16
      · have := hall i (List.mem_range.2 hi)
        rw [beq_iff_eq, List.getD_eq_getElem?_getD, List.getD_eq_getElem?_getD, List.getElem?_eq_getElem (by omega), List.getElem?_eq_getElem (by omega)] at this
        rw [List.getElem?_eq_getElem (by omega), List.getElem?_eq_getElem (by omega)]
        exact congrArg some this
      · rw [List.getElem?_eq_none (by omega), List.getElem?_eq_none (by omega)]
  rw [e] at h
  have := run_equalIn_array (P := Try.prog) w 9999 (u8s xs).toArray (u8s ys).toArray (t := 41) (n := 16) (e := 5) Try.underlying41 hi5
  have hc : Try.prog.cellsOf 5 = 1 := by kernel_rfl
  rw [hc] at this
  exact this.trans h
theorem eqGuard41 : Try.prog.eqGuardType Try.prog.depth 41 = false := by kernel_rfl
theorem Rd.at {w W : World} {b off n cap : Nat} {bs : List Int} (h : Rd w (.slice (some ⟨b, off, none⟩) n cap) n 16 (u8s bs)) (hW : Below w.heap.size w W) {i : Nat} (hi : i < n) : W.rangeAt b (off + i * 16) (u8s ((bs.drop (i * 16)).take 16)) := by
  obtain ⟨hl, A, cp, hv, _, _, _, h2⟩ := h
  obtain ⟨b', o', hA, hbl, hx⟩ := h2 (by omega)
  injection hv with hA2
  rw [← hA2] at hA
  injection hA with hA
  injection hA with q1 q2
  subst q1; subst q2
  intro j v hv
  have hlen : (u8s ((bs.drop (i * 16)).take 16)).length ≤ 16 := by unfold u8s; simp; omega
  have hj : j < 16 := by have := (List.getElem?_eq_some_iff.1 hv).1; omega
  rw [bcell hW _ _ hbl, Nat.add_assoc]
  apply hx
  unfold u8s at hv ⊢
  rw [List.getElem?_map, List.getElem?_take_of_lt hj, List.getElem?_drop] at hv
  rw [List.getElem?_map]
  exact hv
set_option maxRecDepth 100000 in
set_option maxHeartbeats 8000000 in
theorem same_yes (c : Cmd) (dv ev : Value) (w : World) (h1 : Secs w dv c) (h2 : Secs w ev c) :
    Calls Try.prog 14 #[c.val dv, c.val ev] w fun e w' => e = .returned (.bool true) ∧ Below w.heap.size w w' := by
  have hbl : c.bs.length = c.n * 16 := by have := h1.len; unfold u8s at this; simpa using this
  obtain ⟨A1, c1, rfl, hn1, hm1, hz1, hf1⟩ : ∃ A cp, dv = .slice A c.n cp ∧ c.n ≤ cp ∧ cp ≤ maxLen ∧ True ∧ (0 < c.n → ∃ b off, A = some ⟨b, off, none⟩ ∧ b < w.heap.size) := by
    obtain ⟨_, A, cp, h1, h2, h3, h4, h5⟩ := h1; exact ⟨A, cp, h1, h2, h3, trivial, fun h => by obtain ⟨b, off, q1, q2, _⟩ := h5 h; exact ⟨b, off, q1, q2⟩⟩
  obtain ⟨A2, c2, rfl, hn2, hm2, hz2, hf2⟩ : ∃ A cp, ev = .slice A c.n cp ∧ c.n ≤ cp ∧ cp ≤ maxLen ∧ True ∧ (0 < c.n → ∃ b off, A = some ⟨b, off, none⟩ ∧ b < w.heap.size) := by
    obtain ⟨_, A, cp, h1, h2, h3, h4, h5⟩ := h2; exact ⟨A, cp, h1, h2, h3, trivial, fun h => by obtain ⟨b, off, q1, q2, _⟩ := h5 h; exact ⟨b, off, q1, q2⟩⟩
  obtain ⟨kind, lba, count, n, bs, key, res, keep⟩ := c
  simp only [Secs] at *
  have H1 := Lib.hid h1
  have H2 := Lib.hid h2
  have hmx : n ≤ 9223372036854775807 := by unfold maxLen at hm1; omega
  clear h1 h2 hz1 hz2 hm1 hm2
  unfold Cmd.val
  have z1 : (kind != kind) = false := bne_self_eq_false _
  have z2 : (lba != lba) = false := bne_self_eq_false _
  have z3 : (count != count) = false := bne_self_eq_false _
  have z4 : (key != key) = false := bne_self_eq_false _
  have z5 : (res != res) = false := bne_self_eq_false _
  have z6 : (keep != keep) = false := bne_self_eq_false _
  have z7 : ((n : Int) != (n : Int)) = false := bne_self_eq_false _
  have hBB := two_below w (.cells #[.int .i64 kind, .int .i64 lba, .int .i64 count, .slice A1 n c1, .int .u64 key, .int .i64 res, .bool keep] 25) (.cells #[.int .i64 kind, .int .i64 lba, .int .i64 count, .slice A2 n c2, .int .u64 key, .int .i64 res, .bool keep] 25)
  have hXX := two_first w (.cells #[.int .i64 kind, .int .i64 lba, .int .i64 count, .slice A1 n c1, .int .u64 key, .int .i64 res, .bool keep] 25) (.cells #[.int .i64 kind, .int .i64 lba, .int .i64 count, .slice A2 n c2, .int .u64 key, .int .i64 res, .bool keep] 25)
  have hYY := two_last w (.cells #[.int .i64 kind, .int .i64 lba, .int .i64 count, .slice A1 n c1, .int .u64 key, .int .i64 res, .bool keep] 25) (.cells #[.int .i64 kind, .int .i64 lba, .int .i64 count, .slice A2 n c2, .int .u64 key, .int .i64 res, .bool keep] 25)
  go_enter Try.func14, Try.ntmps14
  go_upto_region 3 with (fail)
  clear z1 z2 z3 z4 z5 z6 z7
  generalize hW0 : (w.alloc _).alloc _ = w0 at *
  clear hW0
  have HBB := Lib.hid hBB
  have HXX := Lib.hid hXX
  have HYY := Lib.hid hYY
  clear hBB hXX hYY
  go_wp2_with (fail)
  go_loopg [5] (n) (fun q v5 wr => ∃ i : Nat, i ≤ n ∧ v5 = .int .i64 i ∧ q = n - i ∧ Below w0.heap.size w0 wr)
  case atStart => exact ⟨0, by omega, rfl, rfl, Below.refl _ _⟩
  case round =>
    obtain ⟨i, hi, rfl, hq, hb0⟩ := hrel
    have HQ := Lib.hid hq
    have HB := Lib.hid (HBB.out.trans (hb0.mono HBB.out.size))
    have HB0 := Lib.hid hb0
    have e1 : wr.cell? ⟨w.heap.size, 3, none⟩ = some (.slice A1 n c1) := by rw [cell_of_heap ((hb0.block _ (lt_of_heap HXX.out)).trans HXX.out)]; rfl
    have e2 : wr.cell? ⟨w.heap.size + 1, 3, none⟩ = some (.slice A2 n c2) := by rw [cell_of_heap ((hb0.block _ (lt_of_heap HYY.out)).trans HYY.out)]; rfl
    clear hq hb0
    by_cases hlt : i < n
    · obtain ⟨r1, o1, rfl, hr1⟩ := hf1 (by omega)
      obtain ⟨r2, o2, rfl, hr2⟩ := hf2 (by omega)
      have hcl : (u8s ((bs.drop (i * 16)).take 16)).length = 16 := by unfold u8s; simp; omega
      have hcl2 : ((bs.drop (i * 16)).take 16).length = 16 := by unfold u8s at hcl; simpa using hcl
      have hI : (Try.prog.info? 41).map (·.size) = some (u8s ((bs.drop (i * 16)).take 16)).length := by rw [hcl]; kernel_rfl
      have HI := Lib.hid hI
      have HE := Lib.hid (fun W => (eq_sec hcl2 hcl2 W).trans (by rw [decide_eq_true rfl]))
      have heg := eqGuard41
      have hG1 : ∀ W, (W.cell? ⟨w.heap.size, 3, none⟩ = some (.slice (some ⟨r1, o1, none⟩) n c1) ∧ W.cell? ⟨w.heap.size + 1, 3, none⟩ = some (.slice (some ⟨r2, o2, none⟩) n c2) ∧ Below w.heap.size w W) → W.rangeAt r1 (o1 + i * 16) (u8s ((bs.drop (i * 16)).take 16)) := fun W hW => Rd.at H1.out hW.2.2 hlt
      have hG2 : ∀ W, (W.cell? ⟨w.heap.size, 3, none⟩ = some (.slice (some ⟨r1, o1, none⟩) n c1) ∧ W.cell? ⟨w.heap.size + 1, 3, none⟩ = some (.slice (some ⟨r2, o2, none⟩) n c2) ∧ Below w.heap.size w W) → W.rangeAt r2 (o2 + i * 16) (u8s ((bs.drop (i * 16)).take 16)) := fun W hW => Rd.at H2.out hW.2.2 hlt
      have HG1 := Lib.hid hG1
      have HG2 := Lib.hid hG2
      clear hI hcl hcl2 hG1 hG2
      generalize (bs.drop (i * 16)).take 16 = sec at *
      go_upto_region 6 with (fail)
      refine wp_region_held_drew (S := (fun W => W.cell? ⟨w.heap.size, 3, none⟩ = some (.slice (some ⟨r1, o1, none⟩) n c1) ∧ W.cell? ⟨w.heap.size + 1, 3, none⟩ = some (.slice (some ⟨r2, o2, none⟩) n c2) ∧ Below w.heap.size w W)) (by kernel_rfl) ⟨e1, e2, bdrew HB.out⟩ (fun hS => ?_)
      refine wpAnyH_take (i := 0) (v := ?_) rfl (by kernel_rfl) (by kernel_rfl) (by kernel_rfl) (fun _ _ _ h => h) (Or.inl ⟨by rfl, ?_⟩) hS ?_
      rotate_left
      · intro w' hSw; go_simp; try rfl
      try simp only [Act.put, List.getElem_toArray, List.getElem_cons_succ, List.getElem_cons_zero, List.setIfInBounds_toArray, List.set_cons_zero, List.set_cons_succ]
      refine wpAnyH_take (i := 1) (v := ?_) rfl (by kernel_rfl) (by kernel_rfl) (by kernel_rfl) (fun _ _ _ h => h) (Or.inl ⟨by rfl, ?_⟩) hS ?_
      rotate_left
      · intro w' hSw; obtain ⟨s1, s2, s3⟩ := hSw; go_simp; try rfl
      try simp only [Act.put, List.getElem_toArray, List.getElem_cons_succ, List.getElem_cons_zero, List.setIfInBounds_toArray, List.set_cons_zero, List.set_cons_succ]
      refine wpAnyH_take (i := 2) (v := ?_) rfl (by kernel_rfl) (by kernel_rfl) (by kernel_rfl) (fun _ _ _ h => h) (Or.inl ⟨by rfl, ?_⟩) hS ?_
      rotate_left
      · intro w' hSw; go_simp; try rfl
      try simp only [Act.put, List.getElem_toArray, List.getElem_cons_succ, List.getElem_cons_zero, List.setIfInBounds_toArray, List.set_cons_zero, List.set_cons_succ]
      refine wpAnyH_take (i := 3) (v := ?_) rfl (by kernel_rfl) (by kernel_rfl) (by kernel_rfl) (fun _ _ _ h => h) (Or.inl ⟨by rfl, ?_⟩) hS ?_
      rotate_left
      · intro w' hSw; go_simp; try rfl
      try simp only [Act.put, List.getElem_toArray, List.getElem_cons_succ, List.getElem_cons_zero, List.setIfInBounds_toArray, List.set_cons_zero, List.set_cons_succ]
      refine wpAnyH_take (i := 4) rfl (by kernel_rfl) (by kernel_rfl) (by kernel_rfl) (fun _ _ _ h => h) (yieldsIf_load_mid (by rfl) 41 _ rfl r1 _ rfl (u8s sec) _ (fun W hW => HG1.out W hW) Try.underlying41 rfl HI.out) hS ?_
      try simp only [Act.put, List.getElem_toArray, List.getElem_cons_succ, List.getElem_cons_zero, List.setIfInBounds_toArray, List.set_cons_zero, List.set_cons_succ]
      refine wpAnyH_take (i := 5) (v := ?_) rfl (by kernel_rfl) (by kernel_rfl) (by kernel_rfl) (fun _ _ _ h => h) (Or.inl ⟨by rfl, ?_⟩) hS ?_
      rotate_left
      · intro w' hSw; go_simp; try rfl
      try simp only [Act.put, List.getElem_toArray, List.getElem_cons_succ, List.getElem_cons_zero, List.setIfInBounds_toArray, List.set_cons_zero, List.set_cons_succ]
      refine wpAnyH_take (i := 6) (v := ?_) rfl (by kernel_rfl) (by kernel_rfl) (by kernel_rfl) (fun _ _ _ h => h) (Or.inl ⟨by rfl, ?_⟩) hS ?_
      rotate_left
      · intro w' hSw; obtain ⟨s1, s2, s3⟩ := hSw; go_simp; try rfl
      try simp only [Act.put, List.getElem_toArray, List.getElem_cons_succ, List.getElem_cons_zero, List.setIfInBounds_toArray, List.set_cons_zero, List.set_cons_succ]
      refine wpAnyH_take (i := 7) (v := ?_) rfl (by kernel_rfl) (by kernel_rfl) (by kernel_rfl) (fun _ _ _ h => h) (Or.inl ⟨by rfl, ?_⟩) hS ?_
      rotate_left
      · intro w' hSw; go_simp; try rfl
      try simp only [Act.put, List.getElem_toArray, List.getElem_cons_succ, List.getElem_cons_zero, List.setIfInBounds_toArray, List.set_cons_zero, List.set_cons_succ]
      refine wpAnyH_take (i := 8) (v := ?_) rfl (by kernel_rfl) (by kernel_rfl) (by kernel_rfl) (fun _ _ _ h => h) (Or.inl ⟨by rfl, ?_⟩) hS ?_
      rotate_left
      · intro w' hSw; go_simp; try rfl
      try simp only [Act.put, List.getElem_toArray, List.getElem_cons_succ, List.getElem_cons_zero, List.setIfInBounds_toArray, List.set_cons_zero, List.set_cons_succ]
      refine wpAnyH_take (i := 9) rfl (by kernel_rfl) (by kernel_rfl) (by kernel_rfl) (fun _ _ _ h => h) (yieldsIf_load_mid (by rfl) 41 _ rfl r2 _ rfl (u8s sec) _ (fun W hW => HG2.out W hW) Try.underlying41 rfl HI.out) hS ?_
      try simp only [Act.put, List.getElem_toArray, List.getElem_cons_succ, List.getElem_cons_zero, List.setIfInBounds_toArray, List.set_cons_zero, List.set_cons_succ]
      refine wpAnyH_take (i := 10) (v := ?_) rfl (by kernel_rfl) (by kernel_rfl) (by kernel_rfl) (fun _ _ _ h => h) (Or.inl ⟨by rfl, ?_⟩) hS ?_
      rotate_left
      · intro w' hSw; obtain ⟨s1, s2, s3⟩ := hSw; have q := HE.out w'; go_simp; try rfl
      try simp only [Act.put, List.getElem_toArray, List.getElem_cons_succ, List.getElem_cons_zero, List.setIfInBounds_toArray, List.set_cons_zero, List.set_cons_succ]
      refine wpAnyH_done (by kernel_rfl) ?_ _
      go_wp2_with (fail)
      go_roundg (n - (i + 1))
      case measure => have := HQ.out; omega
      case rel => exact ⟨i + 1, by omega, by go_num, rfl, HB0.out.drew⟩
    · obtain rfl : i = n := by omega
      go_wp2_with (fail)
      go_ret
      exact ⟨rfl, HB.out⟩
end Go.Proofs.Ytlkibkemmmppcaa.Wd
