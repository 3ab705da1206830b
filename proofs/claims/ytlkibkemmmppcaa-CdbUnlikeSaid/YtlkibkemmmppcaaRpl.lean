/- The document's Plain. -/
import Derived.Test.YtlkibkemmmppcaaOwn
namespace Go.Proofs.Ytlkibkemmmppcaa.Wd
open Go.RowKit
set_option linter.unusedVariables false
set_option linter.unusedSimpArgs false
theorem five_mid (w : World) (a b c d e : Obj) : (((((w.alloc a).alloc b).alloc c).alloc d).alloc e).heap[w.heap.size + 1]? = some b :=
  (Below.heap_alloc _ _ _ (by simp)).trans ((Below.heap_alloc _ _ _ (by simp)).trans (three_mid w a b c))
theorem five_first (w : World) (a b c d e : Obj) : (((((w.alloc a).alloc b).alloc c).alloc d).alloc e).heap[w.heap.size]? = some a :=
  (Below.heap_alloc _ _ _ (by simp; omega)).trans ((Below.heap_alloc _ _ _ (by simp; omega)).trans ((Below.heap_alloc _ _ _ (by simp; omega)).trans (two_first w a b)))
theorem five_4 (w : World) (a b c d e : Obj) : (((((w.alloc a).alloc b).alloc c).alloc d).alloc e).heap[w.heap.size + 3]? = some d := by
  have h : w.heap.size + 3 = (((w.alloc a).alloc b).alloc c).heap.size := by simp
  rw [h]
  exact two_first _ _ _
theorem five_below (w : World) (a b c d e : Obj) : Below w.heap.size w (((((w.alloc a).alloc b).alloc c).alloc d).alloc e) :=
  ((three_below w a b c).alloc (by simp; omega) _).alloc (by simp; omega) _
theorem five_own (w : World) (a b c d : Obj) : (((((w.alloc a).alloc b).alloc c).alloc d).alloc (.cells #[] 41)).ownsRow (w.heap.size + 4) 41 16 (.slice (some ⟨w.heap.size + 1 + 1 + 1 + 1, 0, none⟩) 0 0) 0 [] := by
  have h : w.heap.size + 1 + 1 + 1 + 1 = ((((w.alloc a).alloc b).alloc c).alloc d).heap.size := by simp
  rw [h]
  exact World.ownsRow_lit _ #[] 0 (by simp) (by unfold maxLen; omega) rfl
set_option maxRecDepth 100000 in
theorem names_2 (w : World) : Calls Try.prog 23 #[.int .i64 2] w fun e w' => e = .returned (.agg #[.bool true, .bool true, .bool false, .bool false, .bool false, .bool false]) ∧ w' = w.alloc (.cells #[.bool true, .bool true, .bool false, .bool false, .bool false, .bool false] 48) := by
  go_enter Try.func23, Try.ntmps23
  go_wp2_with (fail)
  refine bodyPost_ret (results_cell_row rfl _ _ w.heap.size 48 _ (0, 0) _ rfl (heap_alloc_new w _) Try.underlying48 rfl (by kernel_rfl)) rfl ?_
  exact ⟨rfl, rfl⟩
set_option maxRecDepth 100000 in
theorem names_6 (w : World) : Calls Try.prog 23 #[.int .i64 6] w fun e w' => e = .returned (.agg #[.bool true, .bool true, .bool false, .bool false, .bool false, .bool false]) ∧ w' = w.alloc (.cells #[.bool true, .bool true, .bool false, .bool false, .bool false, .bool false] 48) := by
  go_enter Try.func23, Try.ntmps23
  go_wp2_with (fail)
  refine bodyPost_ret (results_cell_row rfl _ _ w.heap.size 48 _ (0, 0) _ rfl (heap_alloc_new w _) Try.underlying48 rfl (by kernel_rfl)) rfl ?_
  exact ⟨rfl, rfl⟩
set_option maxRecDepth 100000 in
theorem names_3 (w : World) : Calls Try.prog 23 #[.int .i64 3] w fun e w' => e = .returned (.agg #[.bool true, .bool false, .bool true, .bool false, .bool false, .bool false]) ∧ w' = w.alloc (.cells #[.bool true, .bool false, .bool true, .bool false, .bool false, .bool false] 48) := by
  go_enter Try.func23, Try.ntmps23
  go_wp2_with (fail)
  refine bodyPost_ret (results_cell_row rfl _ _ w.heap.size 48 _ (0, 0) _ rfl (heap_alloc_new w _) Try.underlying48 rfl (by kernel_rfl)) rfl ?_
  exact ⟨rfl, rfl⟩
set_option maxRecDepth 100000 in
theorem names_5 (w : World) : Calls Try.prog 23 #[.int .i64 5] w fun e w' => e = .returned (.agg #[.bool true, .bool false, .bool true, .bool false, .bool false, .bool false]) ∧ w' = w.alloc (.cells #[.bool true, .bool false, .bool true, .bool false, .bool false, .bool false] 48) := by
  go_enter Try.func23, Try.ntmps23
  go_wp2_with (fail)
  refine bodyPost_ret (results_cell_row rfl _ _ w.heap.size 48 _ (0, 0) _ rfl (heap_alloc_new w _) Try.underlying48 rfl (by kernel_rfl)) rfl ?_
  exact ⟨rfl, rfl⟩
set_option maxRecDepth 100000 in
theorem names_7 (w : World) : Calls Try.prog 23 #[.int .i64 7] w fun e w' => e = .returned (.agg #[.bool false, .bool false, .bool false, .bool true, .bool false, .bool true]) ∧ w' = w.alloc (.cells #[.bool false, .bool false, .bool false, .bool true, .bool false, .bool true] 48) := by
  go_enter Try.func23, Try.ntmps23
  go_wp2_with (fail)
  refine bodyPost_ret (results_cell_row rfl _ _ w.heap.size 48 _ (0, 0) _ rfl (heap_alloc_new w _) Try.underlying48 rfl (by kernel_rfl)) rfl ?_
  exact ⟨rfl, rfl⟩
set_option maxRecDepth 100000 in
theorem names_8 (w : World) : Calls Try.prog 23 #[.int .i64 8] w fun e w' => e = .returned (.agg #[.bool false, .bool false, .bool false, .bool false, .bool true, .bool false]) ∧ w' = w.alloc (.cells #[.bool false, .bool false, .bool false, .bool false, .bool true, .bool false] 48) := by
  go_enter Try.func23, Try.ntmps23
  go_wp2_with (fail)
  refine bodyPost_ret (results_cell_row rfl _ _ w.heap.size 48 _ (0, 0) _ rfl (heap_alloc_new w _) Try.underlying48 rfl (by kernel_rfl)) rfl ?_
  exact ⟨rfl, rfl⟩
set_option maxRecDepth 100000 in
theorem names_11 (w : World) : Calls Try.prog 23 #[.int .i64 11] w fun e w' => e = .returned (.agg #[.bool false, .bool false, .bool false, .bool true, .bool false, .bool false]) ∧ w' = w.alloc (.cells #[.bool false, .bool false, .bool false, .bool true, .bool false, .bool false] 48) := by
  go_enter Try.func23, Try.ntmps23
  go_wp2_with (fail)
  refine bodyPost_ret (results_cell_row rfl _ _ w.heap.size 48 _ (0, 0) _ rfl (heap_alloc_new w _) Try.underlying48 rfl (by kernel_rfl)) rfl ?_
  exact ⟨rfl, rfl⟩
set_option maxRecDepth 100000 in
theorem names_no (k : Int) (w : World) (k2 : (k == 2) = false) (k6 : (k == 6) = false) (k3 : (k == 3) = false) (k5 : (k == 5) = false) (k7 : (k == 7) = false) (k8 : (k == 8) = false) (k11 : (k == 11) = false) :
    Calls Try.prog 23 #[.int .i64 k] w fun e w' => e = .returned (.agg #[.bool false, .bool false, .bool false, .bool false, .bool false, .bool false]) ∧ w' = w.alloc (.cells #[.bool false, .bool false, .bool false, .bool false, .bool false, .bool false] 48) := by
  go_enter Try.func23, Try.ntmps23
  go_wp2_with (fail)
  refine bodyPost_ret (results_cell_row rfl _ _ w.heap.size 48 _ (0, 0) _ rfl (heap_alloc_new w _) Try.underlying48 rfl (by kernel_rfl)) rfl ?_
  exact ⟨rfl, rfl⟩
set_option maxRecDepth 100000 in
set_option maxHeartbeats 4000000 in
theorem rplain_2 (c : Cmd) (dv : Value) (w : World) (hk : c.kind = 2) :
    Calls Try.prog 15 #[c.val dv] w fun e w' => ∃ dv', e = .returned (c.plain.val dv') ∧ Own w' w.heap.size dv' c.plain ∧ Below w.heap.size w w' := by
  obtain ⟨kind, lba, count, n, bs, key, res, keep⟩ := c
  simp only at hk
  subst hk
  unfold Cmd.val
  cases keep
  all_goals
    go_enter Try.func15, Try.ntmps15
    go_wp2_with (fail)
    refine (names_2 _).mono ?_
    rintro e w' ⟨rfl, rfl⟩
    go_wp2_with (fail)
    refine bodyPost_ret (results_cell_row rfl _ _ (w.heap.size + 1) 25 _ (0, 0) _ rfl (five_mid w _ _ _ _ _) Try.underlying25 rfl (by kernel_rfl)) rfl ?_
    exact ⟨_, rfl, own_lower (five_own w _ _ _ _) (by omega), five_below w _ _ _ _ _⟩
set_option maxRecDepth 100000 in
set_option maxHeartbeats 4000000 in
theorem rplain_6 (c : Cmd) (dv : Value) (w : World) (hk : c.kind = 6) :
    Calls Try.prog 15 #[c.val dv] w fun e w' => ∃ dv', e = .returned (c.plain.val dv') ∧ Own w' w.heap.size dv' c.plain ∧ Below w.heap.size w w' := by
  obtain ⟨kind, lba, count, n, bs, key, res, keep⟩ := c
  simp only at hk
  subst hk
  unfold Cmd.val
  cases keep
  all_goals
    go_enter Try.func15, Try.ntmps15
    go_wp2_with (fail)
    refine (names_6 _).mono ?_
    rintro e w' ⟨rfl, rfl⟩
    go_wp2_with (fail)
    refine bodyPost_ret (results_cell_row rfl _ _ (w.heap.size + 1) 25 _ (0, 0) _ rfl (five_mid w _ _ _ _ _) Try.underlying25 rfl (by kernel_rfl)) rfl ?_
    exact ⟨_, rfl, own_lower (five_own w _ _ _ _) (by omega), five_below w _ _ _ _ _⟩
set_option maxRecDepth 100000 in
set_option maxHeartbeats 4000000 in
theorem rplain_7 (c : Cmd) (dv : Value) (w : World) (hk : c.kind = 7) :
    Calls Try.prog 15 #[c.val dv] w fun e w' => ∃ dv', e = .returned (c.plain.val dv') ∧ Own w' w.heap.size dv' c.plain ∧ Below w.heap.size w w' := by
  obtain ⟨kind, lba, count, n, bs, key, res, keep⟩ := c
  simp only at hk
  subst hk
  unfold Cmd.val
  cases keep
  all_goals
    go_enter Try.func15, Try.ntmps15
    go_wp2_with (fail)
    refine (names_7 _).mono ?_
    rintro e w' ⟨rfl, rfl⟩
    go_wp2_with (fail)
    refine bodyPost_ret (results_cell_row rfl _ _ (w.heap.size + 1) 25 _ (0, 0) _ rfl (five_mid w _ _ _ _ _) Try.underlying25 rfl (by kernel_rfl)) rfl ?_
    exact ⟨_, rfl, own_lower (five_own w _ _ _ _) (by omega), five_below w _ _ _ _ _⟩
set_option maxRecDepth 100000 in
set_option maxHeartbeats 4000000 in
theorem rplain_8 (c : Cmd) (dv : Value) (w : World) (hk : c.kind = 8) :
    Calls Try.prog 15 #[c.val dv] w fun e w' => ∃ dv', e = .returned (c.plain.val dv') ∧ Own w' w.heap.size dv' c.plain ∧ Below w.heap.size w w' := by
  obtain ⟨kind, lba, count, n, bs, key, res, keep⟩ := c
  simp only at hk
  subst hk
  unfold Cmd.val
  cases keep
  all_goals
    go_enter Try.func15, Try.ntmps15
    go_wp2_with (fail)
    refine (names_8 _).mono ?_
    rintro e w' ⟨rfl, rfl⟩
    go_wp2_with (fail)
    refine bodyPost_ret (results_cell_row rfl _ _ (w.heap.size + 1) 25 _ (0, 0) _ rfl (five_mid w _ _ _ _ _) Try.underlying25 rfl (by kernel_rfl)) rfl ?_
    exact ⟨_, rfl, own_lower (five_own w _ _ _ _) (by omega), five_below w _ _ _ _ _⟩
set_option maxRecDepth 100000 in
set_option maxHeartbeats 4000000 in
theorem rplain_11 (c : Cmd) (dv : Value) (w : World) (hk : c.kind = 11) :
    Calls Try.prog 15 #[c.val dv] w fun e w' => ∃ dv', e = .returned (c.plain.val dv') ∧ Own w' w.heap.size dv' c.plain ∧ Below w.heap.size w w' := by
  obtain ⟨kind, lba, count, n, bs, key, res, keep⟩ := c
  simp only at hk
  subst hk
  unfold Cmd.val
  cases keep
  all_goals
    go_enter Try.func15, Try.ntmps15
    go_wp2_with (fail)
    refine (names_11 _).mono ?_
    rintro e w' ⟨rfl, rfl⟩
    go_wp2_with (fail)
    refine bodyPost_ret (results_cell_row rfl _ _ (w.heap.size + 1) 25 _ (0, 0) _ rfl (five_mid w _ _ _ _ _) Try.underlying25 rfl (by kernel_rfl)) rfl ?_
    exact ⟨_, rfl, own_lower (five_own w _ _ _ _) (by omega), five_below w _ _ _ _ _⟩
set_option maxRecDepth 100000 in
set_option maxHeartbeats 4000000 in
theorem rplain_none (c : Cmd) (dv : Value) (w : World) (h2 : c.kind ≠ 2) (h3 : c.kind ≠ 3) (h5 : c.kind ≠ 5) (h6 : c.kind ≠ 6) (h7 : c.kind ≠ 7) (h8 : c.kind ≠ 8) (h11 : c.kind ≠ 11) :
    Calls Try.prog 15 #[c.val dv] w fun e w' => ∃ dv', e = .returned (c.plain.val dv') ∧ Own w' w.heap.size dv' c.plain ∧ Below w.heap.size w w' := by
  have hp : c.plain = ⟨c.kind, 0, 0, 0, [], 0, 0, false⟩ := by
    unfold Cmd.plain
    rw [if_neg (by omega), if_neg (by omega), if_neg (by omega), if_neg (by omega), if_neg (by omega), if_neg (by omega), if_neg (by omega)]
  rw [hp]
  obtain ⟨kind, lba, count, n, bs, key, res, keep⟩ := c
  simp only at h2 h3 h5 h6 h7 h8 h11
  have C := Lib.hid (fun W => names_no kind W (bF h2) (bF h6) (bF h3) (bF h5) (bF h7) (bF h8) (bF h11))
  clear hp h2 h3 h5 h6 h7 h8 h11
  unfold Cmd.val
  cases keep
  all_goals
    go_enter Try.func15, Try.ntmps15
    go_wp2_with (fail)
    refine (C.out _).mono ?_
    rintro e w' ⟨rfl, rfl⟩
    go_wp2_with (fail)
    refine bodyPost_ret (results_cell_row rfl _ _ (w.heap.size + 1) 25 _ (0, 0) _ rfl (five_mid w _ _ _ _ _) Try.underlying25 rfl (by kernel_rfl)) rfl ?_
    exact ⟨_, rfl, own_lower (five_own w _ _ _ _) (by omega), five_below w _ _ _ _ _⟩
set_option maxRecDepth 100000 in
set_option maxHeartbeats 4000000 in
theorem rplain_3 (c : Cmd) (dv : Value) (w : World) (hk : c.kind = 3) (hs0 : Secs w dv c) (hl : c.n * 16 ≤ 140737488355328) :
    Calls Try.prog 15 #[c.val dv] w fun e w' => ∃ dv', e = .returned (c.plain.val dv') ∧ Own w' w.heap.size dv' c.plain ∧ Below w.heap.size w w' := by
  have hs : ∀ W, Below w.heap.size w W → Rd W dv c.n 16 (u8s c.bs) := fun W hW => hs0.below hW
  clear hs0
  obtain ⟨kind, lba, count, n, bs, key, res, keep⟩ := c
  simp only at hk hl hs
  subst hk
  unfold Cmd.val
  obtain ⟨A0, cap0, rfl, _, _⟩ : ∃ A cp, dv = .slice A n cp ∧ n ≤ cp ∧ cp ≤ maxLen := by
    obtain ⟨_, A, cp, h1, h2, h3, _⟩ := hs w (Below.refl _ _); exact ⟨A, cp, h1, h2, h3⟩
  cases keep
  · go_enter Try.func15, Try.ntmps15
    go_wp2_with (fail)
    refine (names_3 _).mono ?_
    rintro e w' ⟨rfl, rfl⟩
    have hB5 := five_below w (.cells #[.int .i64 3, .int .i64 lba, .int .i64 0, (.slice A0 n cap0), .int .u64 key, .int .i64 res, .bool false] 25) (.cells #[.int .i64 0, .int .i64 0, .int .i64 0, .slice none 0 0, .int .u64 0, .int .i64 0, .bool false] 25) (.cells #[.bool true, .bool false, .bool true, .bool false, .bool false, .bool false] 48) (.cells #[.bool true, .bool false, .bool true, .bool false, .bool false, .bool false] 48) (.cells #[] 41)
    have hO5 := five_own w (.cells #[.int .i64 3, .int .i64 lba, .int .i64 0, (.slice A0 n cap0), .int .u64 key, .int .i64 res, .bool false] 25) (.cells #[.int .i64 0, .int .i64 0, .int .i64 0, .slice none 0 0, .int .u64 0, .int .i64 0, .bool false] 25) (.cells #[.bool true, .bool false, .bool true, .bool false, .bool false, .bool false] 48) (.cells #[.bool true, .bool false, .bool true, .bool false, .bool false, .bool false] 48)
    have hX5 := five_first w (.cells #[.int .i64 3, .int .i64 lba, .int .i64 0, (.slice A0 n cap0), .int .u64 key, .int .i64 res, .bool false] 25) (.cells #[.int .i64 0, .int .i64 0, .int .i64 0, .slice none 0 0, .int .u64 0, .int .i64 0, .bool false] 25) (.cells #[.bool true, .bool false, .bool true, .bool false, .bool false, .bool false] 48) (.cells #[.bool true, .bool false, .bool true, .bool false, .bool false, .bool false] 48) (.cells #[] 41)
    have hY5 := five_mid w (.cells #[.int .i64 3, .int .i64 lba, .int .i64 0, (.slice A0 n cap0), .int .u64 key, .int .i64 res, .bool false] 25) (.cells #[.int .i64 0, .int .i64 0, .int .i64 0, .slice none 0 0, .int .u64 0, .int .i64 0, .bool false] 25) (.cells #[.bool true, .bool false, .bool true, .bool false, .bool false, .bool false] 48) (.cells #[.bool true, .bool false, .bool true, .bool false, .bool false, .bool false] 48) (.cells #[] 41)
    have hN5 := five_4 w (.cells #[.int .i64 3, .int .i64 lba, .int .i64 0, (.slice A0 n cap0), .int .u64 key, .int .i64 res, .bool false] 25) (.cells #[.int .i64 0, .int .i64 0, .int .i64 0, .slice none 0 0, .int .u64 0, .int .i64 0, .bool false] 25) (.cells #[.bool true, .bool false, .bool true, .bool false, .bool false, .bool false] 48) (.cells #[.bool true, .bool false, .bool true, .bool false, .bool false, .bool false] 48) (.cells #[] 41)
    go_upto_region 8 with (fail)
    generalize hW5 : ((((w.alloc (.cells #[.int .i64 3, .int .i64 lba, .int .i64 0, (.slice A0 n cap0), .int .u64 key, .int .i64 res, .bool false] 25)).alloc (.cells #[.int .i64 0, .int .i64 0, .int .i64 0, .slice none 0 0, .int .u64 0, .int .i64 0, .bool false] 25)).alloc (.cells #[.bool true, .bool false, .bool true, .bool false, .bool false, .bool false] 48)).alloc (.cells #[.bool true, .bool false, .bool true, .bool false, .bool false, .bool false] 48)).alloc (.cells #[] 41) = w5 at *
    clear hW5
    have hz5 : w.heap.size + 4 ≤ w5.heap.size := by have h : w.heap.size + 1 + 1 + 1 + 1 < w5.heap.size := (hO5.lt _ rfl).2; omega
    obtain ⟨v6, w6, hr6, ho6, hg6, hbb6⟩ := cat_secs w5 (w.heap.size + 4) _ 0 [] (.slice A0 n cap0) n (u8s bs) hO5 (hs _ hB5) (u8s_one _) (by omega) hz5
    rw [Nat.zero_add, List.nil_append] at ho6
    have hO6 := Only.grown hg6
    have hne : ∀ k, k < w.heap.size + 4 → k ∉ (Value.slice (some ⟨w.heap.size + 1 + 1 + 1 + 1, 0, none⟩) 0 0).ownBlock.toList := fun k hk hm => by simp [Value.ownBlock] at hm; omega
    have hX6 := (hO6.block w.heap.size (by omega) (hne _ (by omega))).trans hX5
    have hY6 := (hO6.block (w.heap.size + 1) (by omega) (hne _ (by omega))).trans hY5
    have hN6 := (hO6.block (w.heap.size + 3) (by omega) (hne _ (by omega))).trans hN5
    have HB6 := Lib.hid (Only.below hB5 hO6 hB5.size (fun x hx => by simp [Value.ownBlock] at hx; omega))
    have HR6 := Lib.hid hr6
    have HO6 := Lib.hid ho6
    obtain ⟨A6, cap6, rfl, _, _⟩ := own_form ho6
    have hk6 : ∀ k, (Value.slice A6 n cap6).ownBlock = some k → w.heap.size + 4 ≤ k := fun k h => (ho6.lt k h).1
    have e3 : w5.cell? ⟨w.heap.size, 3, none⟩ = some (.slice A0 n cap0) := by rw [cell_of_heap hX5]; rfl
    clear hB5 hO5 hX5 hY5 hN5 hr6 ho6 hg6 hbb6 hO6 hne
    have f3 : w6.cell? ⟨w.heap.size, 3, none⟩ = some (.slice A0 n cap0) := by rw [cell_of_heap hX6]; rfl
    have g3 : w6.frozen? ⟨w.heap.size, 3, none⟩ = false := frozen_of_heap hX6 3
    go_upto_region 10 with (first | (at_builtin; refine wpList_append_ran rfl (.tmp 19) (.tmp 21) 22 rfl _ _ rfl rfl _ w6 HR6.out ?_))
    have hX7 : (w6.setCell ⟨w.heap.size, 3, none⟩ (.slice A6 n cap6)).heap[w.heap.size]? = some (.cells #[.int .i64 3, .int .i64 lba, .int .i64 0, .slice A6 n cap6, .int .u64 key, .int .i64 res, .bool false] 25 (0, 0)) := heap_set hX6 3 (.slice A6 n cap6)
    have hY7 := (Below.heap_setCell w6 ⟨w.heap.size, 3, none⟩ (.slice A6 n cap6) (w.heap.size + 1) (by show w.heap.size + 1 ≠ w.heap.size; omega)).trans hY6
    have hN7 := (Below.heap_setCell w6 ⟨w.heap.size, 3, none⟩ (.slice A6 n cap6) (w.heap.size + 3) (by show w.heap.size + 3 ≠ w.heap.size; omega)).trans hN6
    have HB7 := Lib.hid (HB6.out.setCell (p := ⟨w.heap.size, 3, none⟩) (by show w.heap.size ≤ w.heap.size; omega) (.slice A6 n cap6))
    have HO7 := Lib.hid (own_kept HO6.out (Only.set (p := ⟨w.heap.size, 3, none⟩) (.slice A6 n cap6)) (fun k h hm => by have := hk6 k h; simp at hm; omega))
    generalize w6.setCell ⟨w.heap.size, 3, none⟩ (.slice A6 n cap6) = w7 at *
    clear hX6 hY6 hN6 HB6 HO6 f3 g3
    have f3 : w7.cell? ⟨w.heap.size, 4, none⟩ = some (.int .u64 key) := by rw [cell_of_heap hX7]; rfl
    have g3 : w7.frozen? ⟨w.heap.size, 4, none⟩ = false := frozen_of_heap hX7 4
    have n3 : w7.cell? ⟨w.heap.size + 1 + 1 + 1, 3, none⟩ = some (.bool false) := by rw [show w.heap.size + 1 + 1 + 1 = w.heap.size + 3 from rfl, cell_of_heap hN7]; rfl
    have n4 : w7.cell? ⟨w.heap.size + 1 + 1 + 1, 4, none⟩ = some (.bool false) := by rw [show w.heap.size + 1 + 1 + 1 = w.heap.size + 3 from rfl, cell_of_heap hN7]; rfl
    have n5 : w7.cell? ⟨w.heap.size + 1 + 1 + 1, 5, none⟩ = some (.bool false) := by rw [show w.heap.size + 1 + 1 + 1 = w.heap.size + 3 from rfl, cell_of_heap hN7]; rfl
    go_upto_region 12 with (fail)
    clear n3 n4 n5
    have hX8 : (w7.setCell ⟨w.heap.size, 4, none⟩ (.int .u64 0)).heap[w.heap.size]? = some (.cells #[.int .i64 3, .int .i64 lba, .int .i64 0, .slice A6 n cap6, .int .u64 0, .int .i64 res, .bool false] 25 (0, 0)) := heap_set hX7 4 (.int .u64 0)
    have hY8 := (Below.heap_setCell w7 ⟨w.heap.size, 4, none⟩ (.int .u64 0) (w.heap.size + 1) (by show w.heap.size + 1 ≠ w.heap.size; omega)).trans hY7
    have hN8 := (Below.heap_setCell w7 ⟨w.heap.size, 4, none⟩ (.int .u64 0) (w.heap.size + 3) (by show w.heap.size + 3 ≠ w.heap.size; omega)).trans hN7
    have HB8 := Lib.hid (HB7.out.setCell (p := ⟨w.heap.size, 4, none⟩) (by show w.heap.size ≤ w.heap.size; omega) (.int .u64 0))
    have HO8 := Lib.hid (own_kept HO7.out (Only.set (p := ⟨w.heap.size, 4, none⟩) (.int .u64 0)) (fun k h hm => by have := hk6 k h; simp at hm; omega))
    generalize w7.setCell ⟨w.heap.size, 4, none⟩ (.int .u64 0) = w8 at *
    clear hX7 hY7 hN7 HB7 HO7 f3 g3
    have f3 : w8.cell? ⟨w.heap.size, 5, none⟩ = some (.int .i64 res) := by rw [cell_of_heap hX8]; rfl
    have g3 : w8.frozen? ⟨w.heap.size, 5, none⟩ = false := frozen_of_heap hX8 5
    have n3 : w8.cell? ⟨w.heap.size + 1 + 1 + 1, 3, none⟩ = some (.bool false) := by rw [show w.heap.size + 1 + 1 + 1 = w.heap.size + 3 from rfl, cell_of_heap hN8]; rfl
    have n4 : w8.cell? ⟨w.heap.size + 1 + 1 + 1, 4, none⟩ = some (.bool false) := by rw [show w.heap.size + 1 + 1 + 1 = w.heap.size + 3 from rfl, cell_of_heap hN8]; rfl
    have n5 : w8.cell? ⟨w.heap.size + 1 + 1 + 1, 5, none⟩ = some (.bool false) := by rw [show w.heap.size + 1 + 1 + 1 = w.heap.size + 3 from rfl, cell_of_heap hN8]; rfl
    go_upto_region 14 with (fail)
    clear n3 n4 n5
    have hX9 : (w8.setCell ⟨w.heap.size, 5, none⟩ (.int .i64 0)).heap[w.heap.size]? = some (.cells #[.int .i64 3, .int .i64 lba, .int .i64 0, .slice A6 n cap6, .int .u64 0, .int .i64 0, .bool false] 25 (0, 0)) := heap_set hX8 5 (.int .i64 0)
    have hY9 := (Below.heap_setCell w8 ⟨w.heap.size, 5, none⟩ (.int .i64 0) (w.heap.size + 1) (by show w.heap.size + 1 ≠ w.heap.size; omega)).trans hY8
    have hN9 := (Below.heap_setCell w8 ⟨w.heap.size, 5, none⟩ (.int .i64 0) (w.heap.size + 3) (by show w.heap.size + 3 ≠ w.heap.size; omega)).trans hN8
    have HB9 := Lib.hid (HB8.out.setCell (p := ⟨w.heap.size, 5, none⟩) (by show w.heap.size ≤ w.heap.size; omega) (.int .i64 0))
    have HO9 := Lib.hid (own_kept HO8.out (Only.set (p := ⟨w.heap.size, 5, none⟩) (.int .i64 0)) (fun k h hm => by have := hk6 k h; simp at hm; omega))
    generalize w8.setCell ⟨w.heap.size, 5, none⟩ (.int .i64 0) = w9 at *
    clear hX8 hY8 hN8 HB8 HO8 f3 g3
    have f3 : w9.cell? ⟨w.heap.size, 6, none⟩ = some (.bool false) := by rw [cell_of_heap hX9]; rfl
    have g3 : w9.frozen? ⟨w.heap.size, 6, none⟩ = false := frozen_of_heap hX9 6
    have n3 : w9.cell? ⟨w.heap.size + 1 + 1 + 1, 3, none⟩ = some (.bool false) := by rw [show w.heap.size + 1 + 1 + 1 = w.heap.size + 3 from rfl, cell_of_heap hN9]; rfl
    have n4 : w9.cell? ⟨w.heap.size + 1 + 1 + 1, 4, none⟩ = some (.bool false) := by rw [show w.heap.size + 1 + 1 + 1 = w.heap.size + 3 from rfl, cell_of_heap hN9]; rfl
    have n5 : w9.cell? ⟨w.heap.size + 1 + 1 + 1, 5, none⟩ = some (.bool false) := by rw [show w.heap.size + 1 + 1 + 1 = w.heap.size + 3 from rfl, cell_of_heap hN9]; rfl
    go_upto_region 15 with (fail)
    clear n3 n4 n5
    have hXa : (w9.setCell ⟨w.heap.size, 6, none⟩ (.bool false)).heap[w.heap.size]? = some (.cells #[.int .i64 3, .int .i64 lba, .int .i64 0, .slice A6 n cap6, .int .u64 0, .int .i64 0, .bool false] 25 (0, 0)) := heap_set hX9 6 (.bool false)
    have hYa := (Below.heap_setCell w9 ⟨w.heap.size, 6, none⟩ (.bool false) (w.heap.size + 1) (by show w.heap.size + 1 ≠ w.heap.size; omega)).trans hY9
    have hNa := (Below.heap_setCell w9 ⟨w.heap.size, 6, none⟩ (.bool false) (w.heap.size + 3) (by show w.heap.size + 3 ≠ w.heap.size; omega)).trans hN9
    have HBa := Lib.hid (HB9.out.setCell (p := ⟨w.heap.size, 6, none⟩) (by show w.heap.size ≤ w.heap.size; omega) (.bool false))
    have HOa := Lib.hid (own_kept HO9.out (Only.set (p := ⟨w.heap.size, 6, none⟩) (.bool false)) (fun k h hm => by have := hk6 k h; simp at hm; omega))
    generalize w9.setCell ⟨w.heap.size, 6, none⟩ (.bool false) = wa at *
    clear hX9 hY9 hN9 HB9 HO9 f3 g3
    go_wp2_with (first | (refine wpList_load_row rfl 25 _ rfl w.heap.size rfl 25 _ (0, 0) _ hXa Try.underlying25 rfl (by kernel_rfl) ?_) | (refine wpList_store_row rfl 25 _ _ rfl (w.heap.size + 1) _ rfl rfl 25 _ hYa (by kernel_rfl) rfl (row_one _ _ _ _ _ _ _ _ _) ?_))
    refine bodyPost_ret (results_cell_row rfl _ _ (w.heap.size + 1) 25 _ (0, 0) _ rfl (heap_setRow hYa _) Try.underlying25 rfl (by kernel_rfl)) rfl ?_
    exact ⟨.slice A6 n cap6, rfl, own_lower (own_kept HOa.out (Only.setRow _) (fun k h hm => by have := hk6 k h; simp at hm; omega)) (by omega), Only.below HBa.out (Only.setRow _) HBa.out.size (by simp)⟩
  · go_enter Try.func15, Try.ntmps15
    go_wp2_with (fail)
    refine (names_3 _).mono ?_
    rintro e w' ⟨rfl, rfl⟩
    have hB5 := five_below w (.cells #[.int .i64 3, .int .i64 lba, .int .i64 0, (.slice A0 n cap0), .int .u64 key, .int .i64 res, .bool true] 25) (.cells #[.int .i64 0, .int .i64 0, .int .i64 0, .slice none 0 0, .int .u64 0, .int .i64 0, .bool false] 25) (.cells #[.bool true, .bool false, .bool true, .bool false, .bool false, .bool false] 48) (.cells #[.bool true, .bool false, .bool true, .bool false, .bool false, .bool false] 48) (.cells #[] 41)
    have hO5 := five_own w (.cells #[.int .i64 3, .int .i64 lba, .int .i64 0, (.slice A0 n cap0), .int .u64 key, .int .i64 res, .bool true] 25) (.cells #[.int .i64 0, .int .i64 0, .int .i64 0, .slice none 0 0, .int .u64 0, .int .i64 0, .bool false] 25) (.cells #[.bool true, .bool false, .bool true, .bool false, .bool false, .bool false] 48) (.cells #[.bool true, .bool false, .bool true, .bool false, .bool false, .bool false] 48)
    have hX5 := five_first w (.cells #[.int .i64 3, .int .i64 lba, .int .i64 0, (.slice A0 n cap0), .int .u64 key, .int .i64 res, .bool true] 25) (.cells #[.int .i64 0, .int .i64 0, .int .i64 0, .slice none 0 0, .int .u64 0, .int .i64 0, .bool false] 25) (.cells #[.bool true, .bool false, .bool true, .bool false, .bool false, .bool false] 48) (.cells #[.bool true, .bool false, .bool true, .bool false, .bool false, .bool false] 48) (.cells #[] 41)
    have hY5 := five_mid w (.cells #[.int .i64 3, .int .i64 lba, .int .i64 0, (.slice A0 n cap0), .int .u64 key, .int .i64 res, .bool true] 25) (.cells #[.int .i64 0, .int .i64 0, .int .i64 0, .slice none 0 0, .int .u64 0, .int .i64 0, .bool false] 25) (.cells #[.bool true, .bool false, .bool true, .bool false, .bool false, .bool false] 48) (.cells #[.bool true, .bool false, .bool true, .bool false, .bool false, .bool false] 48) (.cells #[] 41)
    have hN5 := five_4 w (.cells #[.int .i64 3, .int .i64 lba, .int .i64 0, (.slice A0 n cap0), .int .u64 key, .int .i64 res, .bool true] 25) (.cells #[.int .i64 0, .int .i64 0, .int .i64 0, .slice none 0 0, .int .u64 0, .int .i64 0, .bool false] 25) (.cells #[.bool true, .bool false, .bool true, .bool false, .bool false, .bool false] 48) (.cells #[.bool true, .bool false, .bool true, .bool false, .bool false, .bool false] 48) (.cells #[] 41)
    go_upto_region 8 with (fail)
    generalize hW5 : ((((w.alloc (.cells #[.int .i64 3, .int .i64 lba, .int .i64 0, (.slice A0 n cap0), .int .u64 key, .int .i64 res, .bool true] 25)).alloc (.cells #[.int .i64 0, .int .i64 0, .int .i64 0, .slice none 0 0, .int .u64 0, .int .i64 0, .bool false] 25)).alloc (.cells #[.bool true, .bool false, .bool true, .bool false, .bool false, .bool false] 48)).alloc (.cells #[.bool true, .bool false, .bool true, .bool false, .bool false, .bool false] 48)).alloc (.cells #[] 41) = w5 at *
    clear hW5
    have hz5 : w.heap.size + 4 ≤ w5.heap.size := by have h : w.heap.size + 1 + 1 + 1 + 1 < w5.heap.size := (hO5.lt _ rfl).2; omega
    obtain ⟨v6, w6, hr6, ho6, hg6, hbb6⟩ := cat_secs w5 (w.heap.size + 4) _ 0 [] (.slice A0 n cap0) n (u8s bs) hO5 (hs _ hB5) (u8s_one _) (by omega) hz5
    rw [Nat.zero_add, List.nil_append] at ho6
    have hO6 := Only.grown hg6
    have hne : ∀ k, k < w.heap.size + 4 → k ∉ (Value.slice (some ⟨w.heap.size + 1 + 1 + 1 + 1, 0, none⟩) 0 0).ownBlock.toList := fun k hk hm => by simp [Value.ownBlock] at hm; omega
    have hX6 := (hO6.block w.heap.size (by omega) (hne _ (by omega))).trans hX5
    have hY6 := (hO6.block (w.heap.size + 1) (by omega) (hne _ (by omega))).trans hY5
    have hN6 := (hO6.block (w.heap.size + 3) (by omega) (hne _ (by omega))).trans hN5
    have HB6 := Lib.hid (Only.below hB5 hO6 hB5.size (fun x hx => by simp [Value.ownBlock] at hx; omega))
    have HR6 := Lib.hid hr6
    have HO6 := Lib.hid ho6
    obtain ⟨A6, cap6, rfl, _, _⟩ := own_form ho6
    have hk6 : ∀ k, (Value.slice A6 n cap6).ownBlock = some k → w.heap.size + 4 ≤ k := fun k h => (ho6.lt k h).1
    have e3 : w5.cell? ⟨w.heap.size, 3, none⟩ = some (.slice A0 n cap0) := by rw [cell_of_heap hX5]; rfl
    clear hB5 hO5 hX5 hY5 hN5 hr6 ho6 hg6 hbb6 hO6 hne
    have f3 : w6.cell? ⟨w.heap.size, 3, none⟩ = some (.slice A0 n cap0) := by rw [cell_of_heap hX6]; rfl
    have g3 : w6.frozen? ⟨w.heap.size, 3, none⟩ = false := frozen_of_heap hX6 3
    go_upto_region 10 with (first | (at_builtin; refine wpList_append_ran rfl (.tmp 19) (.tmp 21) 22 rfl _ _ rfl rfl _ w6 HR6.out ?_))
    have hX7 : (w6.setCell ⟨w.heap.size, 3, none⟩ (.slice A6 n cap6)).heap[w.heap.size]? = some (.cells #[.int .i64 3, .int .i64 lba, .int .i64 0, .slice A6 n cap6, .int .u64 key, .int .i64 res, .bool true] 25 (0, 0)) := heap_set hX6 3 (.slice A6 n cap6)
    have hY7 := (Below.heap_setCell w6 ⟨w.heap.size, 3, none⟩ (.slice A6 n cap6) (w.heap.size + 1) (by show w.heap.size + 1 ≠ w.heap.size; omega)).trans hY6
    have hN7 := (Below.heap_setCell w6 ⟨w.heap.size, 3, none⟩ (.slice A6 n cap6) (w.heap.size + 3) (by show w.heap.size + 3 ≠ w.heap.size; omega)).trans hN6
    have HB7 := Lib.hid (HB6.out.setCell (p := ⟨w.heap.size, 3, none⟩) (by show w.heap.size ≤ w.heap.size; omega) (.slice A6 n cap6))
    have HO7 := Lib.hid (own_kept HO6.out (Only.set (p := ⟨w.heap.size, 3, none⟩) (.slice A6 n cap6)) (fun k h hm => by have := hk6 k h; simp at hm; omega))
    generalize w6.setCell ⟨w.heap.size, 3, none⟩ (.slice A6 n cap6) = w7 at *
    clear hX6 hY6 hN6 HB6 HO6 f3 g3
    have f3 : w7.cell? ⟨w.heap.size, 4, none⟩ = some (.int .u64 key) := by rw [cell_of_heap hX7]; rfl
    have g3 : w7.frozen? ⟨w.heap.size, 4, none⟩ = false := frozen_of_heap hX7 4
    have n3 : w7.cell? ⟨w.heap.size + 1 + 1 + 1, 3, none⟩ = some (.bool false) := by rw [show w.heap.size + 1 + 1 + 1 = w.heap.size + 3 from rfl, cell_of_heap hN7]; rfl
    have n4 : w7.cell? ⟨w.heap.size + 1 + 1 + 1, 4, none⟩ = some (.bool false) := by rw [show w.heap.size + 1 + 1 + 1 = w.heap.size + 3 from rfl, cell_of_heap hN7]; rfl
    have n5 : w7.cell? ⟨w.heap.size + 1 + 1 + 1, 5, none⟩ = some (.bool false) := by rw [show w.heap.size + 1 + 1 + 1 = w.heap.size + 3 from rfl, cell_of_heap hN7]; rfl
    go_upto_region 12 with (fail)
    clear n3 n4 n5
    have hX8 : (w7.setCell ⟨w.heap.size, 4, none⟩ (.int .u64 0)).heap[w.heap.size]? = some (.cells #[.int .i64 3, .int .i64 lba, .int .i64 0, .slice A6 n cap6, .int .u64 0, .int .i64 res, .bool true] 25 (0, 0)) := heap_set hX7 4 (.int .u64 0)
    have hY8 := (Below.heap_setCell w7 ⟨w.heap.size, 4, none⟩ (.int .u64 0) (w.heap.size + 1) (by show w.heap.size + 1 ≠ w.heap.size; omega)).trans hY7
    have hN8 := (Below.heap_setCell w7 ⟨w.heap.size, 4, none⟩ (.int .u64 0) (w.heap.size + 3) (by show w.heap.size + 3 ≠ w.heap.size; omega)).trans hN7
    have HB8 := Lib.hid (HB7.out.setCell (p := ⟨w.heap.size, 4, none⟩) (by show w.heap.size ≤ w.heap.size; omega) (.int .u64 0))
    have HO8 := Lib.hid (own_kept HO7.out (Only.set (p := ⟨w.heap.size, 4, none⟩) (.int .u64 0)) (fun k h hm => by have := hk6 k h; simp at hm; omega))
    generalize w7.setCell ⟨w.heap.size, 4, none⟩ (.int .u64 0) = w8 at *
    clear hX7 hY7 hN7 HB7 HO7 f3 g3
    have f3 : w8.cell? ⟨w.heap.size, 5, none⟩ = some (.int .i64 res) := by rw [cell_of_heap hX8]; rfl
    have g3 : w8.frozen? ⟨w.heap.size, 5, none⟩ = false := frozen_of_heap hX8 5
    have n3 : w8.cell? ⟨w.heap.size + 1 + 1 + 1, 3, none⟩ = some (.bool false) := by rw [show w.heap.size + 1 + 1 + 1 = w.heap.size + 3 from rfl, cell_of_heap hN8]; rfl
    have n4 : w8.cell? ⟨w.heap.size + 1 + 1 + 1, 4, none⟩ = some (.bool false) := by rw [show w.heap.size + 1 + 1 + 1 = w.heap.size + 3 from rfl, cell_of_heap hN8]; rfl
    have n5 : w8.cell? ⟨w.heap.size + 1 + 1 + 1, 5, none⟩ = some (.bool false) := by rw [show w.heap.size + 1 + 1 + 1 = w.heap.size + 3 from rfl, cell_of_heap hN8]; rfl
    go_upto_region 14 with (fail)
    clear n3 n4 n5
    have hX9 : (w8.setCell ⟨w.heap.size, 5, none⟩ (.int .i64 0)).heap[w.heap.size]? = some (.cells #[.int .i64 3, .int .i64 lba, .int .i64 0, .slice A6 n cap6, .int .u64 0, .int .i64 0, .bool true] 25 (0, 0)) := heap_set hX8 5 (.int .i64 0)
    have hY9 := (Below.heap_setCell w8 ⟨w.heap.size, 5, none⟩ (.int .i64 0) (w.heap.size + 1) (by show w.heap.size + 1 ≠ w.heap.size; omega)).trans hY8
    have hN9 := (Below.heap_setCell w8 ⟨w.heap.size, 5, none⟩ (.int .i64 0) (w.heap.size + 3) (by show w.heap.size + 3 ≠ w.heap.size; omega)).trans hN8
    have HB9 := Lib.hid (HB8.out.setCell (p := ⟨w.heap.size, 5, none⟩) (by show w.heap.size ≤ w.heap.size; omega) (.int .i64 0))
    have HO9 := Lib.hid (own_kept HO8.out (Only.set (p := ⟨w.heap.size, 5, none⟩) (.int .i64 0)) (fun k h hm => by have := hk6 k h; simp at hm; omega))
    generalize w8.setCell ⟨w.heap.size, 5, none⟩ (.int .i64 0) = w9 at *
    clear hX8 hY8 hN8 HB8 HO8 f3 g3
    have f3 : w9.cell? ⟨w.heap.size, 6, none⟩ = some (.bool true) := by rw [cell_of_heap hX9]; rfl
    have g3 : w9.frozen? ⟨w.heap.size, 6, none⟩ = false := frozen_of_heap hX9 6
    have n3 : w9.cell? ⟨w.heap.size + 1 + 1 + 1, 3, none⟩ = some (.bool false) := by rw [show w.heap.size + 1 + 1 + 1 = w.heap.size + 3 from rfl, cell_of_heap hN9]; rfl
    have n4 : w9.cell? ⟨w.heap.size + 1 + 1 + 1, 4, none⟩ = some (.bool false) := by rw [show w.heap.size + 1 + 1 + 1 = w.heap.size + 3 from rfl, cell_of_heap hN9]; rfl
    have n5 : w9.cell? ⟨w.heap.size + 1 + 1 + 1, 5, none⟩ = some (.bool false) := by rw [show w.heap.size + 1 + 1 + 1 = w.heap.size + 3 from rfl, cell_of_heap hN9]; rfl
    go_upto_region 15 with (fail)
    clear n3 n4 n5
    have hXa : (w9.setCell ⟨w.heap.size, 6, none⟩ (.bool false)).heap[w.heap.size]? = some (.cells #[.int .i64 3, .int .i64 lba, .int .i64 0, .slice A6 n cap6, .int .u64 0, .int .i64 0, .bool false] 25 (0, 0)) := heap_set hX9 6 (.bool false)
    have hYa := (Below.heap_setCell w9 ⟨w.heap.size, 6, none⟩ (.bool false) (w.heap.size + 1) (by show w.heap.size + 1 ≠ w.heap.size; omega)).trans hY9
    have hNa := (Below.heap_setCell w9 ⟨w.heap.size, 6, none⟩ (.bool false) (w.heap.size + 3) (by show w.heap.size + 3 ≠ w.heap.size; omega)).trans hN9
    have HBa := Lib.hid (HB9.out.setCell (p := ⟨w.heap.size, 6, none⟩) (by show w.heap.size ≤ w.heap.size; omega) (.bool false))
    have HOa := Lib.hid (own_kept HO9.out (Only.set (p := ⟨w.heap.size, 6, none⟩) (.bool false)) (fun k h hm => by have := hk6 k h; simp at hm; omega))
    generalize w9.setCell ⟨w.heap.size, 6, none⟩ (.bool false) = wa at *
    clear hX9 hY9 hN9 HB9 HO9 f3 g3
    go_wp2_with (first | (refine wpList_load_row rfl 25 _ rfl w.heap.size rfl 25 _ (0, 0) _ hXa Try.underlying25 rfl (by kernel_rfl) ?_) | (refine wpList_store_row rfl 25 _ _ rfl (w.heap.size + 1) _ rfl rfl 25 _ hYa (by kernel_rfl) rfl (row_one _ _ _ _ _ _ _ _ _) ?_))
    refine bodyPost_ret (results_cell_row rfl _ _ (w.heap.size + 1) 25 _ (0, 0) _ rfl (heap_setRow hYa _) Try.underlying25 rfl (by kernel_rfl)) rfl ?_
    exact ⟨.slice A6 n cap6, rfl, own_lower (own_kept HOa.out (Only.setRow _) (fun k h hm => by have := hk6 k h; simp at hm; omega)) (by omega), Only.below HBa.out (Only.setRow _) HBa.out.size (by simp)⟩
set_option maxRecDepth 100000 in
set_option maxHeartbeats 4000000 in
theorem rplain_5 (c : Cmd) (dv : Value) (w : World) (hk : c.kind = 5) (hs0 : Secs w dv c) (hl : c.n * 16 ≤ 140737488355328) :
    Calls Try.prog 15 #[c.val dv] w fun e w' => ∃ dv', e = .returned (c.plain.val dv') ∧ Own w' w.heap.size dv' c.plain ∧ Below w.heap.size w w' := by
  have hs : ∀ W, Below w.heap.size w W → Rd W dv c.n 16 (u8s c.bs) := fun W hW => hs0.below hW
  clear hs0
  obtain ⟨kind, lba, count, n, bs, key, res, keep⟩ := c
  simp only at hk hl hs
  subst hk
  unfold Cmd.val
  obtain ⟨A0, cap0, rfl, _, _⟩ : ∃ A cp, dv = .slice A n cp ∧ n ≤ cp ∧ cp ≤ maxLen := by
    obtain ⟨_, A, cp, h1, h2, h3, _⟩ := hs w (Below.refl _ _); exact ⟨A, cp, h1, h2, h3⟩
  cases keep
  · go_enter Try.func15, Try.ntmps15
    go_wp2_with (fail)
    refine (names_5 _).mono ?_
    rintro e w' ⟨rfl, rfl⟩
    have hB5 := five_below w (.cells #[.int .i64 5, .int .i64 lba, .int .i64 0, (.slice A0 n cap0), .int .u64 key, .int .i64 res, .bool false] 25) (.cells #[.int .i64 0, .int .i64 0, .int .i64 0, .slice none 0 0, .int .u64 0, .int .i64 0, .bool false] 25) (.cells #[.bool true, .bool false, .bool true, .bool false, .bool false, .bool false] 48) (.cells #[.bool true, .bool false, .bool true, .bool false, .bool false, .bool false] 48) (.cells #[] 41)
    have hO5 := five_own w (.cells #[.int .i64 5, .int .i64 lba, .int .i64 0, (.slice A0 n cap0), .int .u64 key, .int .i64 res, .bool false] 25) (.cells #[.int .i64 0, .int .i64 0, .int .i64 0, .slice none 0 0, .int .u64 0, .int .i64 0, .bool false] 25) (.cells #[.bool true, .bool false, .bool true, .bool false, .bool false, .bool false] 48) (.cells #[.bool true, .bool false, .bool true, .bool false, .bool false, .bool false] 48)
    have hX5 := five_first w (.cells #[.int .i64 5, .int .i64 lba, .int .i64 0, (.slice A0 n cap0), .int .u64 key, .int .i64 res, .bool false] 25) (.cells #[.int .i64 0, .int .i64 0, .int .i64 0, .slice none 0 0, .int .u64 0, .int .i64 0, .bool false] 25) (.cells #[.bool true, .bool false, .bool true, .bool false, .bool false, .bool false] 48) (.cells #[.bool true, .bool false, .bool true, .bool false, .bool false, .bool false] 48) (.cells #[] 41)
    have hY5 := five_mid w (.cells #[.int .i64 5, .int .i64 lba, .int .i64 0, (.slice A0 n cap0), .int .u64 key, .int .i64 res, .bool false] 25) (.cells #[.int .i64 0, .int .i64 0, .int .i64 0, .slice none 0 0, .int .u64 0, .int .i64 0, .bool false] 25) (.cells #[.bool true, .bool false, .bool true, .bool false, .bool false, .bool false] 48) (.cells #[.bool true, .bool false, .bool true, .bool false, .bool false, .bool false] 48) (.cells #[] 41)
    have hN5 := five_4 w (.cells #[.int .i64 5, .int .i64 lba, .int .i64 0, (.slice A0 n cap0), .int .u64 key, .int .i64 res, .bool false] 25) (.cells #[.int .i64 0, .int .i64 0, .int .i64 0, .slice none 0 0, .int .u64 0, .int .i64 0, .bool false] 25) (.cells #[.bool true, .bool false, .bool true, .bool false, .bool false, .bool false] 48) (.cells #[.bool true, .bool false, .bool true, .bool false, .bool false, .bool false] 48) (.cells #[] 41)
    go_upto_region 8 with (fail)
    generalize hW5 : ((((w.alloc (.cells #[.int .i64 5, .int .i64 lba, .int .i64 0, (.slice A0 n cap0), .int .u64 key, .int .i64 res, .bool false] 25)).alloc (.cells #[.int .i64 0, .int .i64 0, .int .i64 0, .slice none 0 0, .int .u64 0, .int .i64 0, .bool false] 25)).alloc (.cells #[.bool true, .bool false, .bool true, .bool false, .bool false, .bool false] 48)).alloc (.cells #[.bool true, .bool false, .bool true, .bool false, .bool false, .bool false] 48)).alloc (.cells #[] 41) = w5 at *
    clear hW5
    have hz5 : w.heap.size + 4 ≤ w5.heap.size := by have h : w.heap.size + 1 + 1 + 1 + 1 < w5.heap.size := (hO5.lt _ rfl).2; omega
    obtain ⟨v6, w6, hr6, ho6, hg6, hbb6⟩ := cat_secs w5 (w.heap.size + 4) _ 0 [] (.slice A0 n cap0) n (u8s bs) hO5 (hs _ hB5) (u8s_one _) (by omega) hz5
    rw [Nat.zero_add, List.nil_append] at ho6
    have hO6 := Only.grown hg6
    have hne : ∀ k, k < w.heap.size + 4 → k ∉ (Value.slice (some ⟨w.heap.size + 1 + 1 + 1 + 1, 0, none⟩) 0 0).ownBlock.toList := fun k hk hm => by simp [Value.ownBlock] at hm; omega
    have hX6 := (hO6.block w.heap.size (by omega) (hne _ (by omega))).trans hX5
    have hY6 := (hO6.block (w.heap.size + 1) (by omega) (hne _ (by omega))).trans hY5
    have hN6 := (hO6.block (w.heap.size + 3) (by omega) (hne _ (by omega))).trans hN5
    have HB6 := Lib.hid (Only.below hB5 hO6 hB5.size (fun x hx => by simp [Value.ownBlock] at hx; omega))
    have HR6 := Lib.hid hr6
    have HO6 := Lib.hid ho6
    obtain ⟨A6, cap6, rfl, _, _⟩ := own_form ho6
    have hk6 : ∀ k, (Value.slice A6 n cap6).ownBlock = some k → w.heap.size + 4 ≤ k := fun k h => (ho6.lt k h).1
    have e3 : w5.cell? ⟨w.heap.size, 3, none⟩ = some (.slice A0 n cap0) := by rw [cell_of_heap hX5]; rfl
    clear hB5 hO5 hX5 hY5 hN5 hr6 ho6 hg6 hbb6 hO6 hne
    have f3 : w6.cell? ⟨w.heap.size, 3, none⟩ = some (.slice A0 n cap0) := by rw [cell_of_heap hX6]; rfl
    have g3 : w6.frozen? ⟨w.heap.size, 3, none⟩ = false := frozen_of_heap hX6 3
    go_upto_region 10 with (first | (at_builtin; refine wpList_append_ran rfl (.tmp 19) (.tmp 21) 22 rfl _ _ rfl rfl _ w6 HR6.out ?_))
    have hX7 : (w6.setCell ⟨w.heap.size, 3, none⟩ (.slice A6 n cap6)).heap[w.heap.size]? = some (.cells #[.int .i64 5, .int .i64 lba, .int .i64 0, .slice A6 n cap6, .int .u64 key, .int .i64 res, .bool false] 25 (0, 0)) := heap_set hX6 3 (.slice A6 n cap6)
    have hY7 := (Below.heap_setCell w6 ⟨w.heap.size, 3, none⟩ (.slice A6 n cap6) (w.heap.size + 1) (by show w.heap.size + 1 ≠ w.heap.size; omega)).trans hY6
    have hN7 := (Below.heap_setCell w6 ⟨w.heap.size, 3, none⟩ (.slice A6 n cap6) (w.heap.size + 3) (by show w.heap.size + 3 ≠ w.heap.size; omega)).trans hN6
    have HB7 := Lib.hid (HB6.out.setCell (p := ⟨w.heap.size, 3, none⟩) (by show w.heap.size ≤ w.heap.size; omega) (.slice A6 n cap6))
    have HO7 := Lib.hid (own_kept HO6.out (Only.set (p := ⟨w.heap.size, 3, none⟩) (.slice A6 n cap6)) (fun k h hm => by have := hk6 k h; simp at hm; omega))
    generalize w6.setCell ⟨w.heap.size, 3, none⟩ (.slice A6 n cap6) = w7 at *
    clear hX6 hY6 hN6 HB6 HO6 f3 g3
    have f3 : w7.cell? ⟨w.heap.size, 4, none⟩ = some (.int .u64 key) := by rw [cell_of_heap hX7]; rfl
    have g3 : w7.frozen? ⟨w.heap.size, 4, none⟩ = false := frozen_of_heap hX7 4
    have n3 : w7.cell? ⟨w.heap.size + 1 + 1 + 1, 3, none⟩ = some (.bool false) := by rw [show w.heap.size + 1 + 1 + 1 = w.heap.size + 3 from rfl, cell_of_heap hN7]; rfl
    have n4 : w7.cell? ⟨w.heap.size + 1 + 1 + 1, 4, none⟩ = some (.bool false) := by rw [show w.heap.size + 1 + 1 + 1 = w.heap.size + 3 from rfl, cell_of_heap hN7]; rfl
    have n5 : w7.cell? ⟨w.heap.size + 1 + 1 + 1, 5, none⟩ = some (.bool false) := by rw [show w.heap.size + 1 + 1 + 1 = w.heap.size + 3 from rfl, cell_of_heap hN7]; rfl
    go_upto_region 12 with (fail)
    clear n3 n4 n5
    have hX8 : (w7.setCell ⟨w.heap.size, 4, none⟩ (.int .u64 0)).heap[w.heap.size]? = some (.cells #[.int .i64 5, .int .i64 lba, .int .i64 0, .slice A6 n cap6, .int .u64 0, .int .i64 res, .bool false] 25 (0, 0)) := heap_set hX7 4 (.int .u64 0)
    have hY8 := (Below.heap_setCell w7 ⟨w.heap.size, 4, none⟩ (.int .u64 0) (w.heap.size + 1) (by show w.heap.size + 1 ≠ w.heap.size; omega)).trans hY7
    have hN8 := (Below.heap_setCell w7 ⟨w.heap.size, 4, none⟩ (.int .u64 0) (w.heap.size + 3) (by show w.heap.size + 3 ≠ w.heap.size; omega)).trans hN7
    have HB8 := Lib.hid (HB7.out.setCell (p := ⟨w.heap.size, 4, none⟩) (by show w.heap.size ≤ w.heap.size; omega) (.int .u64 0))
    have HO8 := Lib.hid (own_kept HO7.out (Only.set (p := ⟨w.heap.size, 4, none⟩) (.int .u64 0)) (fun k h hm => by have := hk6 k h; simp at hm; omega))
    generalize w7.setCell ⟨w.heap.size, 4, none⟩ (.int .u64 0) = w8 at *
    clear hX7 hY7 hN7 HB7 HO7 f3 g3
    have f3 : w8.cell? ⟨w.heap.size, 5, none⟩ = some (.int .i64 res) := by rw [cell_of_heap hX8]; rfl
    have g3 : w8.frozen? ⟨w.heap.size, 5, none⟩ = false := frozen_of_heap hX8 5
    have n3 : w8.cell? ⟨w.heap.size + 1 + 1 + 1, 3, none⟩ = some (.bool false) := by rw [show w.heap.size + 1 + 1 + 1 = w.heap.size + 3 from rfl, cell_of_heap hN8]; rfl
    have n4 : w8.cell? ⟨w.heap.size + 1 + 1 + 1, 4, none⟩ = some (.bool false) := by rw [show w.heap.size + 1 + 1 + 1 = w.heap.size + 3 from rfl, cell_of_heap hN8]; rfl
    have n5 : w8.cell? ⟨w.heap.size + 1 + 1 + 1, 5, none⟩ = some (.bool false) := by rw [show w.heap.size + 1 + 1 + 1 = w.heap.size + 3 from rfl, cell_of_heap hN8]; rfl
    go_upto_region 14 with (fail)
    clear n3 n4 n5
    have hX9 : (w8.setCell ⟨w.heap.size, 5, none⟩ (.int .i64 0)).heap[w.heap.size]? = some (.cells #[.int .i64 5, .int .i64 lba, .int .i64 0, .slice A6 n cap6, .int .u64 0, .int .i64 0, .bool false] 25 (0, 0)) := heap_set hX8 5 (.int .i64 0)
    have hY9 := (Below.heap_setCell w8 ⟨w.heap.size, 5, none⟩ (.int .i64 0) (w.heap.size + 1) (by show w.heap.size + 1 ≠ w.heap.size; omega)).trans hY8
    have hN9 := (Below.heap_setCell w8 ⟨w.heap.size, 5, none⟩ (.int .i64 0) (w.heap.size + 3) (by show w.heap.size + 3 ≠ w.heap.size; omega)).trans hN8
    have HB9 := Lib.hid (HB8.out.setCell (p := ⟨w.heap.size, 5, none⟩) (by show w.heap.size ≤ w.heap.size; omega) (.int .i64 0))
    have HO9 := Lib.hid (own_kept HO8.out (Only.set (p := ⟨w.heap.size, 5, none⟩) (.int .i64 0)) (fun k h hm => by have := hk6 k h; simp at hm; omega))
    generalize w8.setCell ⟨w.heap.size, 5, none⟩ (.int .i64 0) = w9 at *
    clear hX8 hY8 hN8 HB8 HO8 f3 g3
    have f3 : w9.cell? ⟨w.heap.size, 6, none⟩ = some (.bool false) := by rw [cell_of_heap hX9]; rfl
    have g3 : w9.frozen? ⟨w.heap.size, 6, none⟩ = false := frozen_of_heap hX9 6
    have n3 : w9.cell? ⟨w.heap.size + 1 + 1 + 1, 3, none⟩ = some (.bool false) := by rw [show w.heap.size + 1 + 1 + 1 = w.heap.size + 3 from rfl, cell_of_heap hN9]; rfl
    have n4 : w9.cell? ⟨w.heap.size + 1 + 1 + 1, 4, none⟩ = some (.bool false) := by rw [show w.heap.size + 1 + 1 + 1 = w.heap.size + 3 from rfl, cell_of_heap hN9]; rfl
    have n5 : w9.cell? ⟨w.heap.size + 1 + 1 + 1, 5, none⟩ = some (.bool false) := by rw [show w.heap.size + 1 + 1 + 1 = w.heap.size + 3 from rfl, cell_of_heap hN9]; rfl
    go_upto_region 15 with (fail)
    clear n3 n4 n5
    have hXa : (w9.setCell ⟨w.heap.size, 6, none⟩ (.bool false)).heap[w.heap.size]? = some (.cells #[.int .i64 5, .int .i64 lba, .int .i64 0, .slice A6 n cap6, .int .u64 0, .int .i64 0, .bool false] 25 (0, 0)) := heap_set hX9 6 (.bool false)
    have hYa := (Below.heap_setCell w9 ⟨w.heap.size, 6, none⟩ (.bool false) (w.heap.size + 1) (by show w.heap.size + 1 ≠ w.heap.size; omega)).trans hY9
    have hNa := (Below.heap_setCell w9 ⟨w.heap.size, 6, none⟩ (.bool false) (w.heap.size + 3) (by show w.heap.size + 3 ≠ w.heap.size; omega)).trans hN9
    have HBa := Lib.hid (HB9.out.setCell (p := ⟨w.heap.size, 6, none⟩) (by show w.heap.size ≤ w.heap.size; omega) (.bool false))
    have HOa := Lib.hid (own_kept HO9.out (Only.set (p := ⟨w.heap.size, 6, none⟩) (.bool false)) (fun k h hm => by have := hk6 k h; simp at hm; omega))
    generalize w9.setCell ⟨w.heap.size, 6, none⟩ (.bool false) = wa at *
    clear hX9 hY9 hN9 HB9 HO9 f3 g3
    go_wp2_with (first | (refine wpList_load_row rfl 25 _ rfl w.heap.size rfl 25 _ (0, 0) _ hXa Try.underlying25 rfl (by kernel_rfl) ?_) | (refine wpList_store_row rfl 25 _ _ rfl (w.heap.size + 1) _ rfl rfl 25 _ hYa (by kernel_rfl) rfl (row_one _ _ _ _ _ _ _ _ _) ?_))
    refine bodyPost_ret (results_cell_row rfl _ _ (w.heap.size + 1) 25 _ (0, 0) _ rfl (heap_setRow hYa _) Try.underlying25 rfl (by kernel_rfl)) rfl ?_
    exact ⟨.slice A6 n cap6, rfl, own_lower (own_kept HOa.out (Only.setRow _) (fun k h hm => by have := hk6 k h; simp at hm; omega)) (by omega), Only.below HBa.out (Only.setRow _) HBa.out.size (by simp)⟩
  · go_enter Try.func15, Try.ntmps15
    go_wp2_with (fail)
    refine (names_5 _).mono ?_
    rintro e w' ⟨rfl, rfl⟩
    have hB5 := five_below w (.cells #[.int .i64 5, .int .i64 lba, .int .i64 0, (.slice A0 n cap0), .int .u64 key, .int .i64 res, .bool true] 25) (.cells #[.int .i64 0, .int .i64 0, .int .i64 0, .slice none 0 0, .int .u64 0, .int .i64 0, .bool false] 25) (.cells #[.bool true, .bool false, .bool true, .bool false, .bool false, .bool false] 48) (.cells #[.bool true, .bool false, .bool true, .bool false, .bool false, .bool false] 48) (.cells #[] 41)
    have hO5 := five_own w (.cells #[.int .i64 5, .int .i64 lba, .int .i64 0, (.slice A0 n cap0), .int .u64 key, .int .i64 res, .bool true] 25) (.cells #[.int .i64 0, .int .i64 0, .int .i64 0, .slice none 0 0, .int .u64 0, .int .i64 0, .bool false] 25) (.cells #[.bool true, .bool false, .bool true, .bool false, .bool false, .bool false] 48) (.cells #[.bool true, .bool false, .bool true, .bool false, .bool false, .bool false] 48)
    have hX5 := five_first w (.cells #[.int .i64 5, .int .i64 lba, .int .i64 0, (.slice A0 n cap0), .int .u64 key, .int .i64 res, .bool true] 25) (.cells #[.int .i64 0, .int .i64 0, .int .i64 0, .slice none 0 0, .int .u64 0, .int .i64 0, .bool false] 25) (.cells #[.bool true, .bool false, .bool true, .bool false, .bool false, .bool false] 48) (.cells #[.bool true, .bool false, .bool true, .bool false, .bool false, .bool false] 48) (.cells #[] 41)
    have hY5 := five_mid w (.cells #[.int .i64 5, .int .i64 lba, .int .i64 0, (.slice A0 n cap0), .int .u64 key, .int .i64 res, .bool true] 25) (.cells #[.int .i64 0, .int .i64 0, .int .i64 0, .slice none 0 0, .int .u64 0, .int .i64 0, .bool false] 25) (.cells #[.bool true, .bool false, .bool true, .bool false, .bool false, .bool false] 48) (.cells #[.bool true, .bool false, .bool true, .bool false, .bool false, .bool false] 48) (.cells #[] 41)
    have hN5 := five_4 w (.cells #[.int .i64 5, .int .i64 lba, .int .i64 0, (.slice A0 n cap0), .int .u64 key, .int .i64 res, .bool true] 25) (.cells #[.int .i64 0, .int .i64 0, .int .i64 0, .slice none 0 0, .int .u64 0, .int .i64 0, .bool false] 25) (.cells #[.bool true, .bool false, .bool true, .bool false, .bool false, .bool false] 48) (.cells #[.bool true, .bool false, .bool true, .bool false, .bool false, .bool false] 48) (.cells #[] 41)
    go_upto_region 8 with (fail)
    generalize hW5 : ((((w.alloc (.cells #[.int .i64 5, .int .i64 lba, .int .i64 0, (.slice A0 n cap0), .int .u64 key, .int .i64 res, .bool true] 25)).alloc (.cells #[.int .i64 0, .int .i64 0, .int .i64 0, .slice none 0 0, .int .u64 0, .int .i64 0, .bool false] 25)).alloc (.cells #[.bool true, .bool false, .bool true, .bool false, .bool false, .bool false] 48)).alloc (.cells #[.bool true, .bool false, .bool true, .bool false, .bool false, .bool false] 48)).alloc (.cells #[] 41) = w5 at *
    clear hW5
    have hz5 : w.heap.size + 4 ≤ w5.heap.size := by have h : w.heap.size + 1 + 1 + 1 + 1 < w5.heap.size := (hO5.lt _ rfl).2; omega
    obtain ⟨v6, w6, hr6, ho6, hg6, hbb6⟩ := cat_secs w5 (w.heap.size + 4) _ 0 [] (.slice A0 n cap0) n (u8s bs) hO5 (hs _ hB5) (u8s_one _) (by omega) hz5
    rw [Nat.zero_add, List.nil_append] at ho6
    have hO6 := Only.grown hg6
    have hne : ∀ k, k < w.heap.size + 4 → k ∉ (Value.slice (some ⟨w.heap.size + 1 + 1 + 1 + 1, 0, none⟩) 0 0).ownBlock.toList := fun k hk hm => by simp [Value.ownBlock] at hm; omega
    have hX6 := (hO6.block w.heap.size (by omega) (hne _ (by omega))).trans hX5
    have hY6 := (hO6.block (w.heap.size + 1) (by omega) (hne _ (by omega))).trans hY5
    have hN6 := (hO6.block (w.heap.size + 3) (by omega) (hne _ (by omega))).trans hN5
    have HB6 := Lib.hid (Only.below hB5 hO6 hB5.size (fun x hx => by simp [Value.ownBlock] at hx; omega))
    have HR6 := Lib.hid hr6
    have HO6 := Lib.hid ho6
    obtain ⟨A6, cap6, rfl, _, _⟩ := own_form ho6
    have hk6 : ∀ k, (Value.slice A6 n cap6).ownBlock = some k → w.heap.size + 4 ≤ k := fun k h => (ho6.lt k h).1
    have e3 : w5.cell? ⟨w.heap.size, 3, none⟩ = some (.slice A0 n cap0) := by rw [cell_of_heap hX5]; rfl
    clear hB5 hO5 hX5 hY5 hN5 hr6 ho6 hg6 hbb6 hO6 hne
    have f3 : w6.cell? ⟨w.heap.size, 3, none⟩ = some (.slice A0 n cap0) := by rw [cell_of_heap hX6]; rfl
    have g3 : w6.frozen? ⟨w.heap.size, 3, none⟩ = false := frozen_of_heap hX6 3
    go_upto_region 10 with (first | (at_builtin; refine wpList_append_ran rfl (.tmp 19) (.tmp 21) 22 rfl _ _ rfl rfl _ w6 HR6.out ?_))
    have hX7 : (w6.setCell ⟨w.heap.size, 3, none⟩ (.slice A6 n cap6)).heap[w.heap.size]? = some (.cells #[.int .i64 5, .int .i64 lba, .int .i64 0, .slice A6 n cap6, .int .u64 key, .int .i64 res, .bool true] 25 (0, 0)) := heap_set hX6 3 (.slice A6 n cap6)
    have hY7 := (Below.heap_setCell w6 ⟨w.heap.size, 3, none⟩ (.slice A6 n cap6) (w.heap.size + 1) (by show w.heap.size + 1 ≠ w.heap.size; omega)).trans hY6
    have hN7 := (Below.heap_setCell w6 ⟨w.heap.size, 3, none⟩ (.slice A6 n cap6) (w.heap.size + 3) (by show w.heap.size + 3 ≠ w.heap.size; omega)).trans hN6
    have HB7 := Lib.hid (HB6.out.setCell (p := ⟨w.heap.size, 3, none⟩) (by show w.heap.size ≤ w.heap.size; omega) (.slice A6 n cap6))
    have HO7 := Lib.hid (own_kept HO6.out (Only.set (p := ⟨w.heap.size, 3, none⟩) (.slice A6 n cap6)) (fun k h hm => by have := hk6 k h; simp at hm; omega))
    generalize w6.setCell ⟨w.heap.size, 3, none⟩ (.slice A6 n cap6) = w7 at *
    clear hX6 hY6 hN6 HB6 HO6 f3 g3
    have f3 : w7.cell? ⟨w.heap.size, 4, none⟩ = some (.int .u64 key) := by rw [cell_of_heap hX7]; rfl
    have g3 : w7.frozen? ⟨w.heap.size, 4, none⟩ = false := frozen_of_heap hX7 4
    have n3 : w7.cell? ⟨w.heap.size + 1 + 1 + 1, 3, none⟩ = some (.bool false) := by rw [show w.heap.size + 1 + 1 + 1 = w.heap.size + 3 from rfl, cell_of_heap hN7]; rfl
    have n4 : w7.cell? ⟨w.heap.size + 1 + 1 + 1, 4, none⟩ = some (.bool false) := by rw [show w.heap.size + 1 + 1 + 1 = w.heap.size + 3 from rfl, cell_of_heap hN7]; rfl
    have n5 : w7.cell? ⟨w.heap.size + 1 + 1 + 1, 5, none⟩ = some (.bool false) := by rw [show w.heap.size + 1 + 1 + 1 = w.heap.size + 3 from rfl, cell_of_heap hN7]; rfl
    go_upto_region 12 with (fail)
    clear n3 n4 n5
    have hX8 : (w7.setCell ⟨w.heap.size, 4, none⟩ (.int .u64 0)).heap[w.heap.size]? = some (.cells #[.int .i64 5, .int .i64 lba, .int .i64 0, .slice A6 n cap6, .int .u64 0, .int .i64 res, .bool true] 25 (0, 0)) := heap_set hX7 4 (.int .u64 0)
    have hY8 := (Below.heap_setCell w7 ⟨w.heap.size, 4, none⟩ (.int .u64 0) (w.heap.size + 1) (by show w.heap.size + 1 ≠ w.heap.size; omega)).trans hY7
    have hN8 := (Below.heap_setCell w7 ⟨w.heap.size, 4, none⟩ (.int .u64 0) (w.heap.size + 3) (by show w.heap.size + 3 ≠ w.heap.size; omega)).trans hN7
    have HB8 := Lib.hid (HB7.out.setCell (p := ⟨w.heap.size, 4, none⟩) (by show w.heap.size ≤ w.heap.size; omega) (.int .u64 0))
    have HO8 := Lib.hid (own_kept HO7.out (Only.set (p := ⟨w.heap.size, 4, none⟩) (.int .u64 0)) (fun k h hm => by have := hk6 k h; simp at hm; omega))
    generalize w7.setCell ⟨w.heap.size, 4, none⟩ (.int .u64 0) = w8 at *
    clear hX7 hY7 hN7 HB7 HO7 f3 g3
    have f3 : w8.cell? ⟨w.heap.size, 5, none⟩ = some (.int .i64 res) := by rw [cell_of_heap hX8]; rfl
    have g3 : w8.frozen? ⟨w.heap.size, 5, none⟩ = false := frozen_of_heap hX8 5
    have n3 : w8.cell? ⟨w.heap.size + 1 + 1 + 1, 3, none⟩ = some (.bool false) := by rw [show w.heap.size + 1 + 1 + 1 = w.heap.size + 3 from rfl, cell_of_heap hN8]; rfl
    have n4 : w8.cell? ⟨w.heap.size + 1 + 1 + 1, 4, none⟩ = some (.bool false) := by rw [show w.heap.size + 1 + 1 + 1 = w.heap.size + 3 from rfl, cell_of_heap hN8]; rfl
    have n5 : w8.cell? ⟨w.heap.size + 1 + 1 + 1, 5, none⟩ = some (.bool false) := by rw [show w.heap.size + 1 + 1 + 1 = w.heap.size + 3 from rfl, cell_of_heap hN8]; rfl
    go_upto_region 14 with (fail)
    clear n3 n4 n5
    have hX9 : (w8.setCell ⟨w.heap.size, 5, none⟩ (.int .i64 0)).heap[w.heap.size]? = some (.cells #[.int .i64 5, .int .i64 lba, .int .i64 0, .slice A6 n cap6, .int .u64 0, .int .i64 0, .bool true] 25 (0, 0)) := heap_set hX8 5 (.int .i64 0)
    have hY9 := (Below.heap_setCell w8 ⟨w.heap.size, 5, none⟩ (.int .i64 0) (w.heap.size + 1) (by show w.heap.size + 1 ≠ w.heap.size; omega)).trans hY8
    have hN9 := (Below.heap_setCell w8 ⟨w.heap.size, 5, none⟩ (.int .i64 0) (w.heap.size + 3) (by show w.heap.size + 3 ≠ w.heap.size; omega)).trans hN8
    have HB9 := Lib.hid (HB8.out.setCell (p := ⟨w.heap.size, 5, none⟩) (by show w.heap.size ≤ w.heap.size; omega) (.int .i64 0))
    have HO9 := Lib.hid (own_kept HO8.out (Only.set (p := ⟨w.heap.size, 5, none⟩) (.int .i64 0)) (fun k h hm => by have := hk6 k h; simp at hm; omega))
    generalize w8.setCell ⟨w.heap.size, 5, none⟩ (.int .i64 0) = w9 at *
    clear hX8 hY8 hN8 HB8 HO8 f3 g3
    have f3 : w9.cell? ⟨w.heap.size, 6, none⟩ = some (.bool true) := by rw [cell_of_heap hX9]; rfl
    have g3 : w9.frozen? ⟨w.heap.size, 6, none⟩ = false := frozen_of_heap hX9 6
    have n3 : w9.cell? ⟨w.heap.size + 1 + 1 + 1, 3, none⟩ = some (.bool false) := by rw [show w.heap.size + 1 + 1 + 1 = w.heap.size + 3 from rfl, cell_of_heap hN9]; rfl
    have n4 : w9.cell? ⟨w.heap.size + 1 + 1 + 1, 4, none⟩ = some (.bool false) := by rw [show w.heap.size + 1 + 1 + 1 = w.heap.size + 3 from rfl, cell_of_heap hN9]; rfl
    have n5 : w9.cell? ⟨w.heap.size + 1 + 1 + 1, 5, none⟩ = some (.bool false) := by rw [show w.heap.size + 1 + 1 + 1 = w.heap.size + 3 from rfl, cell_of_heap hN9]; rfl
    go_upto_region 15 with (fail)
    clear n3 n4 n5
    have hXa : (w9.setCell ⟨w.heap.size, 6, none⟩ (.bool false)).heap[w.heap.size]? = some (.cells #[.int .i64 5, .int .i64 lba, .int .i64 0, .slice A6 n cap6, .int .u64 0, .int .i64 0, .bool false] 25 (0, 0)) := heap_set hX9 6 (.bool false)
    have hYa := (Below.heap_setCell w9 ⟨w.heap.size, 6, none⟩ (.bool false) (w.heap.size + 1) (by show w.heap.size + 1 ≠ w.heap.size; omega)).trans hY9
    have hNa := (Below.heap_setCell w9 ⟨w.heap.size, 6, none⟩ (.bool false) (w.heap.size + 3) (by show w.heap.size + 3 ≠ w.heap.size; omega)).trans hN9
    have HBa := Lib.hid (HB9.out.setCell (p := ⟨w.heap.size, 6, none⟩) (by show w.heap.size ≤ w.heap.size; omega) (.bool false))
    have HOa := Lib.hid (own_kept HO9.out (Only.set (p := ⟨w.heap.size, 6, none⟩) (.bool false)) (fun k h hm => by have := hk6 k h; simp at hm; omega))
    generalize w9.setCell ⟨w.heap.size, 6, none⟩ (.bool false) = wa at *
    clear hX9 hY9 hN9 HB9 HO9 f3 g3
    go_wp2_with (first | (refine wpList_load_row rfl 25 _ rfl w.heap.size rfl 25 _ (0, 0) _ hXa Try.underlying25 rfl (by kernel_rfl) ?_) | (refine wpList_store_row rfl 25 _ _ rfl (w.heap.size + 1) _ rfl rfl 25 _ hYa (by kernel_rfl) rfl (row_one _ _ _ _ _ _ _ _ _) ?_))
    refine bodyPost_ret (results_cell_row rfl _ _ (w.heap.size + 1) 25 _ (0, 0) _ rfl (heap_setRow hYa _) Try.underlying25 rfl (by kernel_rfl)) rfl ?_
    exact ⟨.slice A6 n cap6, rfl, own_lower (own_kept HOa.out (Only.setRow _) (fun k h hm => by have := hk6 k h; simp at hm; omega)) (by omega), Only.below HBa.out (Only.setRow _) HBa.out.size (by simp)⟩
theorem rplain_any (c : Cmd) (dv : Value) (w : World) (hs : Secs w dv c) (hl : c.n * 16 ≤ 140737488355328) :
    Calls Try.prog 15 #[c.val dv] w fun e w' => ∃ dv', e = .returned (c.plain.val dv') ∧ Own w' w.heap.size dv' c.plain ∧ Below w.heap.size w w' := by
  by_cases h2 : c.kind = 2; exact rplain_2 c dv w h2
  by_cases h3 : c.kind = 3; exact rplain_3 c dv w h3 hs hl
  by_cases h5 : c.kind = 5; exact rplain_5 c dv w h5 hs hl
  by_cases h6 : c.kind = 6; exact rplain_6 c dv w h6
  by_cases h7 : c.kind = 7; exact rplain_7 c dv w h7
  by_cases h8 : c.kind = 8; exact rplain_8 c dv w h8
  by_cases h11 : c.kind = 11; exact rplain_11 c dv w h11
  exact rplain_none c dv w h2 h3 h5 h6 h7 h8 h11
end Go.Proofs.Ytlkibkemmmppcaa.Wd
