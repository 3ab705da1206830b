/- Commands, as plain data and in memory; Clone and Plain. -/
import Derived.Test.YtlkibkemmmppcaaWord
namespace Go.Proofs.Ytlkibkemmmppcaa.Wd
open Go.RowKit
set_option linter.unusedVariables false
set_option linter.unusedSimpArgs false
/-- A command: its sectors are the bytes bs, sixteen for each of n. -/
structure Cmd where
  kind : Int
  lba : Int
  count : Int
  n : Nat
  bs : List Int
  key : Int
  res : Int
  keep : Bool
def u8s (bs : List Int) : List Value := bs.map (.int .u8)
theorem u8s_one (bs : List Int) : ∀ y ∈ u8s bs, y.oneCell' = true := by
  intro y hy
  unfold u8s at hy
  rw [List.mem_map] at hy
  obtain ⟨x, _, rfl⟩ := hy
  rfl
def Cmd.val (c : Cmd) (dv : Value) : Value := .agg #[.int .i64 c.kind, .int .i64 c.lba, .int .i64 c.count, dv, .int .u64 c.key, .int .i64 c.res, .bool c.keep]
def Cmd.hasData (c : Cmd) : Bool := c.kind == 3 || c.kind == 5
/-- The plain command. -/
def Cmd.plain (c : Cmd) : Cmd :=
  ⟨c.kind, if c.kind = 2 ∨ c.kind = 6 ∨ c.kind = 3 ∨ c.kind = 5 then c.lba else 0, if c.kind = 2 ∨ c.kind = 6 then c.count else 0,
    if c.kind = 3 ∨ c.kind = 5 then c.n else 0, if c.kind = 3 ∨ c.kind = 5 then c.bs else [],
    if c.kind = 7 ∨ c.kind = 11 then c.key else 0, if c.kind = 8 then c.res else 0, if c.kind = 7 then c.keep else false⟩
/-- A command's sectors, read; one's own. -/
def Secs (w : World) (dv : Value) (c : Cmd) : Prop := Rd w dv c.n 16 (u8s c.bs)
def Own (w : World) (base : Nat) (dv : Value) (c : Cmd) : Prop := w.ownsRow base 41 16 dv c.n (u8s c.bs)
theorem Own.secs {w : World} {base : Nat} {dv : Value} {c : Cmd} (h : Own w base dv c) : Secs w dv c := Rd.of_own h
theorem info41 : (Try.prog.info? 41).map (fun i => (i.zero, i.size, i.bytes)) = some (some (.agg (Array.replicate 16 (.int .u8 0))), 16, 16) := by kernel_rfl
theorem cat_secs (w : World) (base : Nat) (v : Value) (n : Nat) (xs : List Value) (u : Value) (m : Nat) (ys : List Value) (hown : w.ownsRow base 41 16 v n xs) (hu : Rd w u m 16 ys) (h1 : ∀ y ∈ ys, y.oneCell' = true) (hl : (n + m) * 16 ≤ 140737488355328) (hbase : base ≤ w.heap.size) :
    ∃ v' w', (Builtin.append_ #[22, 22] 22 #[v, u]).run Try.prog w = .ok v' w' ∧ w'.ownsRow base 41 16 v' (n + m) (xs ++ ys) ∧ w.grownBy w' v.ownBlock ∧ (v'.ownBlock = v.ownBlock ∨ v'.ownBlock = some w.heap.size) := by
  obtain ⟨i0, hi0, hz0, hz1, hz2⟩ := info_parts info41
  exact run_cat w base 22 41 i0 _ 16 16 Try.underlying22 hi0 hz0 hz1 hz2 rfl (by omega) v n xs u m ys hown hu h1 hl (by unfold maxLen; omega) hbase
/-- A copy behind an empty row. -/
theorem copy_secs (w : World) (u : Value) (m : Nat) (ys : List Value) (hu : Rd w u m 16 ys) (h1 : ∀ y ∈ ys, y.oneCell' = true) (hl : m * 16 ≤ 140737488355328) :
    ∃ v' w', (Builtin.append_ #[22, 22] 22 #[.slice (some ⟨w.heap.size, 0, none⟩) 0 0, u]).run Try.prog (w.alloc (.cells #[] 41)) = .ok v' w' ∧ w'.ownsRow w.heap.size 41 16 v' m ys ∧ Below w.heap.size w w' ∧ v' ≠ .slice none 0 0 := by
  have B1 : Below w.heap.size w (w.alloc (.cells #[] 41)) := balloc w _
  have O1 : (w.alloc (.cells #[] 41)).ownsRow w.heap.size 41 16 (.slice (some ⟨w.heap.size, 0, none⟩) 0 0) 0 [] := World.ownsRow_lit w #[] 0 (Nat.le_refl _) (by unfold maxLen; omega) rfl
  have R1 := cat_secs (w.alloc (.cells #[] 41)) w.heap.size _ 0 [] u m ys O1 (hu.below B1) h1 (by omega) (by simp)
  rw [Nat.zero_add, List.nil_append] at R1
  obtain ⟨v1, w1, hr1, hown1, hg1, hb1⟩ := R1
  refine ⟨v1, w1, hr1, hown1, B1.grown hg1 (by simp) (fun q hq => by simp [Value.ownBlock] at hq; omega), ?_⟩
  rintro rfl
  rcases hb1 with h | h <;> simp [Value.ownBlock] at h
theorem cmp_nil : ∀ W : World, (binOp BinOp.eql 22 (Value.slice none 0 0) (Value.slice none 0 0)).run Try.prog W = .ok (.bool true) W := fun W => by kernel_rfl
theorem cmp_some (a : Addr) (n cap : Nat) : ∀ W : World, (binOp BinOp.eql 22 (Value.slice (some a) n cap) (Value.slice none 0 0)).run Try.prog W = .ok (.bool false) W := fun W => by kernel_rfl
theorem clone_any (w : World) (u : Value) (m : Nat) (ys : List Value) (hu : Rd w u m 16 ys) (h1 : ∀ y ∈ ys, y.oneCell' = true) (hl : m * 16 ≤ 140737488355328) :
    Calls Try.prog 25 #[u] w fun e w' => ∃ v', e = .returned v' ∧ w'.ownsRow w.heap.size 41 16 v' m ys ∧ Below w.heap.size w w' := by
  obtain ⟨v1, w1, hr1, ho1, hb1, _⟩ := copy_secs w u m ys hu h1 hl
  have HR := Lib.hid hr1
  have HO := Lib.hid ho1
  have HB := Lib.hid hb1
  clear hr1 ho1 hb1
  obtain ⟨h0, A, cap, rfl, hn, hc, hz, h2⟩ := hu
  cases A with
  | none =>
    have hc0 := hz rfl
    subst hc0
    obtain rfl : m = 0 := by omega
    have hy : ys = [] := List.eq_nil_of_length_eq_zero (by rw [h0, Nat.zero_mul])
    subst hy
    have hcmp := cmp_nil
    go_enter Try.func25, Try.ntmps25
    go_wp2_with (fail)
    go_ret
    exact ⟨_, rfl, World.ownsRow_nil _ _ _ _, Below.refl _ _⟩
  | some a =>
    clear h2 hz
    have hcmp := cmp_some a m cap
    go_enter Try.func25, Try.ntmps25
    go_wp2_with (first | (at_builtin; refine wpList_append_ran rfl (.tmp 5) (.tmp 6) 22 rfl _ _ rfl rfl v1 w1 HR.out ?_))
    go_ret
    exact ⟨_, rfl, HO.out, HB.out⟩
theorem three_mid (w : World) (a b c : Obj) : (((w.alloc a).alloc b).alloc c).heap[w.heap.size + 1]? = some b := by
  have e : w.heap.size + 1 = (w.alloc a).heap.size := by simp
  rw [e]
  exact (Below.heap_alloc _ _ _ (by simp)).trans (heap_alloc_new _ _)
theorem three_below (w : World) (a b c : Obj) : Below w.heap.size w (((w.alloc a).alloc b).alloc c) := (((Below.refl _ _).alloc (Nat.le_refl _) _).alloc (by simp) _).alloc (by simp; omega) _
set_option maxRecDepth 100000 in
theorem plain_2 (c : Cmd) (dv : Value) (w : World) (hk : c.kind = 2) :
    Calls Try.prog 17 #[c.val dv] w fun e w' => ∃ dv', e = .returned (c.plain.val dv') ∧ Own w' w.heap.size dv' c.plain ∧ Below w.heap.size w w' := by
  obtain ⟨kind, lba, count, n, bs, key, res, keep⟩ := c
  simp only at hk
  subst hk
  unfold Cmd.val
  go_enter Try.func17, Try.ntmps17
  go_wp2_with (fail)
  go_region
  all_goals
    go_wp2_with (fail)
    refine bodyPost_ret (results_cell_row rfl _ _ (w.heap.size + 1) 25 _ (0, 0) _ rfl (three_mid w _ _ _) Try.underlying25 rfl (by kernel_rfl)) rfl ?_
    exact ⟨.slice none 0 0, rfl, World.ownsRow_nil _ _ _ _, (three_below _ _ _ _).drew⟩
set_option maxRecDepth 100000 in
theorem plain_6 (c : Cmd) (dv : Value) (w : World) (hk : c.kind = 6) :
    Calls Try.prog 17 #[c.val dv] w fun e w' => ∃ dv', e = .returned (c.plain.val dv') ∧ Own w' w.heap.size dv' c.plain ∧ Below w.heap.size w w' := by
  obtain ⟨kind, lba, count, n, bs, key, res, keep⟩ := c
  simp only at hk
  subst hk
  unfold Cmd.val
  go_enter Try.func17, Try.ntmps17
  go_wp2_with (fail)
  go_region
  all_goals
    go_wp2_with (fail)
    refine bodyPost_ret (results_cell_row rfl _ _ (w.heap.size + 1) 25 _ (0, 0) _ rfl (three_mid w _ _ _) Try.underlying25 rfl (by kernel_rfl)) rfl ?_
    exact ⟨.slice none 0 0, rfl, World.ownsRow_nil _ _ _ _, (three_below _ _ _ _).drew⟩
set_option maxRecDepth 100000 in
theorem plain_7 (c : Cmd) (dv : Value) (w : World) (hk : c.kind = 7) :
    Calls Try.prog 17 #[c.val dv] w fun e w' => ∃ dv', e = .returned (c.plain.val dv') ∧ Own w' w.heap.size dv' c.plain ∧ Below w.heap.size w w' := by
  obtain ⟨kind, lba, count, n, bs, key, res, keep⟩ := c
  simp only at hk
  subst hk
  unfold Cmd.val
  go_enter Try.func17, Try.ntmps17
  go_wp2_with (fail)
  go_region
  all_goals
    go_wp2_with (fail)
    refine bodyPost_ret (results_cell_row rfl _ _ (w.heap.size + 1) 25 _ (0, 0) _ rfl (three_mid w _ _ _) Try.underlying25 rfl (by kernel_rfl)) rfl ?_
    exact ⟨.slice none 0 0, rfl, World.ownsRow_nil _ _ _ _, (three_below _ _ _ _).drew⟩
set_option maxRecDepth 100000 in
theorem plain_8 (c : Cmd) (dv : Value) (w : World) (hk : c.kind = 8) :
    Calls Try.prog 17 #[c.val dv] w fun e w' => ∃ dv', e = .returned (c.plain.val dv') ∧ Own w' w.heap.size dv' c.plain ∧ Below w.heap.size w w' := by
  obtain ⟨kind, lba, count, n, bs, key, res, keep⟩ := c
  simp only at hk
  subst hk
  unfold Cmd.val
  go_enter Try.func17, Try.ntmps17
  go_wp2_with (fail)
  refine bodyPost_ret (results_cell_row rfl _ _ (w.heap.size + 1) 25 _ (0, 0) _ rfl (three_mid w _ _ _) Try.underlying25 rfl (by kernel_rfl)) rfl ?_
  exact ⟨.slice none 0 0, rfl, World.ownsRow_nil _ _ _ _, three_below _ _ _ _⟩
set_option maxRecDepth 100000 in
theorem plain_11 (c : Cmd) (dv : Value) (w : World) (hk : c.kind = 11) :
    Calls Try.prog 17 #[c.val dv] w fun e w' => ∃ dv', e = .returned (c.plain.val dv') ∧ Own w' w.heap.size dv' c.plain ∧ Below w.heap.size w w' := by
  obtain ⟨kind, lba, count, n, bs, key, res, keep⟩ := c
  simp only at hk
  subst hk
  unfold Cmd.val
  go_enter Try.func17, Try.ntmps17
  go_wp2_with (fail)
  refine bodyPost_ret (results_cell_row rfl _ _ (w.heap.size + 1) 25 _ (0, 0) _ rfl (three_mid w _ _ _) Try.underlying25 rfl (by kernel_rfl)) rfl ?_
  exact ⟨.slice none 0 0, rfl, World.ownsRow_nil _ _ _ _, three_below _ _ _ _⟩
set_option maxRecDepth 100000 in
theorem plain_none (c : Cmd) (dv : Value) (w : World) (h2 : c.kind ≠ 2) (h3 : c.kind ≠ 3) (h5 : c.kind ≠ 5) (h6 : c.kind ≠ 6) (h7 : c.kind ≠ 7) (h8 : c.kind ≠ 8) (h11 : c.kind ≠ 11) :
    Calls Try.prog 17 #[c.val dv] w fun e w' => ∃ dv', e = .returned (c.plain.val dv') ∧ Own w' w.heap.size dv' c.plain ∧ Below w.heap.size w w' := by
  have hp : c.plain = ⟨c.kind, 0, 0, 0, [], 0, 0, false⟩ := by
    unfold Cmd.plain
    rw [if_neg (by omega), if_neg (by omega), if_neg (by omega), if_neg (by omega), if_neg (by omega), if_neg (by omega), if_neg (by omega)]
  rw [hp]
  obtain ⟨kind, lba, count, n, bs, key, res, keep⟩ := c
  simp only at h2 h3 h5 h6 h7 h8 h11
  have k2 := bF h2
  have k3 := bF h3
  have k5 := bF h5
  have k6 := bF h6
  have k7 := bF h7
  have k8 := bF h8
  have k11 := bF h11
  clear hp h2 h3 h5 h6 h7 h8 h11
  unfold Cmd.val
  go_enter Try.func17, Try.ntmps17
  go_wp2_with (fail)
  refine bodyPost_ret (results_cell_row rfl _ _ (w.heap.size + 1) 25 _ (0, 0) _ rfl (three_mid w _ _ _) Try.underlying25 rfl (by kernel_rfl)) rfl ?_
  exact ⟨.slice none 0 0, rfl, World.ownsRow_nil _ _ _ _, three_below _ _ _ _⟩
theorem row_one (a b c : Int) (A : Option Addr) (n cap : Nat) (k r : Int) (p : Bool) : (#[.int .i64 a, .int .i64 b, .int .i64 c, .slice A n cap, .int .u64 k, .int .i64 r, .bool p] : Array Value).all (·.oneCell') = true := by simp [Value.oneCell']
theorem three_first (w : World) (a b c : Obj) : (((w.alloc a).alloc b).alloc c).drew.heap[w.heap.size]? = some a :=
  (Below.heap_alloc _ _ _ (by simp; omega)).trans ((Below.heap_alloc _ _ _ (by simp)).trans (heap_alloc_new _ _))
theorem three_last (w : World) (a b c : Obj) : (((w.alloc a).alloc b).alloc c).heap[w.heap.size + 2]? = some c := by
  have e : w.heap.size + 2 = ((w.alloc a).alloc b).heap.size := by simp
  rw [e]
  exact heap_alloc_new _ _
set_option maxRecDepth 100000 in
theorem plain_data (c : Cmd) (dv : Value) (w : World) (hk : c.kind = 3 ∨ c.kind = 5) (hs : Secs w dv c) (hl : c.n * 16 ≤ 140737488355328) :
    Calls Try.prog 17 #[c.val dv] w fun e w' => ∃ dv', e = .returned (c.plain.val dv') ∧ Own w' w.heap.size dv' c.plain ∧ Below w.heap.size w w' := by
  have hp : c.plain = ⟨c.kind, c.lba, 0, c.n, c.bs, 0, 0, false⟩ := by
    unfold Cmd.plain
    rw [if_pos (by omega), if_neg (by omega), if_pos (by omega), if_pos (by omega), if_neg (by omega), if_neg (by omega), if_neg (by omega)]
  rw [hp]
  have HC : ∀ W, Below w.heap.size w W → Calls Try.prog 25 #[dv] W fun e w' => ∃ v', e = .returned v' ∧ w'.ownsRow W.heap.size 41 16 v' c.n (u8s c.bs) ∧ Below W.heap.size W w' := fun W hW => clone_any W dv c.n (u8s c.bs) (hs.below hW) (u8s_one _) hl
  have C := Lib.hid HC
  obtain ⟨kind, lba, count, n, bs, key, res, keep⟩ := c
  simp only at hk C
  clear hp HC hs hl
  unfold Cmd.val
  rcases hk with rfl | rfl
  · go_enter Try.func17, Try.ntmps17
    go_upto_region 8 with (fail)
    refine wp_region_held_drew (S := fun w' => w'.heap[w.heap.size]? = some (.cells #[.int .i64 3, .int .i64 lba, .int .i64 count, dv, .int .u64 key, .int .i64 res, .bool keep] 25 (0, 0))) (by kernel_rfl) (three_first w _ _ _) (fun hS => ?_)
    refine wpAnyH_take (i := 0) (v := ?_) rfl (by kernel_rfl) (by kernel_rfl) (by kernel_rfl) (fun _ _ _ h => h) (Or.inl ⟨by rfl, ?_⟩) hS ?_
    rotate_left
    · intro w' hSw; go_simp; try rfl
    try simp only [Act.put, List.getElem_toArray, List.getElem_cons_succ, List.getElem_cons_zero, List.setIfInBounds_toArray, List.set_cons_zero, List.set_cons_succ]
    refine wpAnyH_take (i := 1) (v := ?_) rfl (by kernel_rfl) (by kernel_rfl) (by kernel_rfl) (fun _ _ _ h => h) (Or.inl ⟨by rfl, ?_⟩) hS ?_
    rotate_left
    · intro w' hSw; have c1 : w'.cell? ⟨w.heap.size, 1, none⟩ = some (.int .i64 lba) := (by rw [cell_of_heap hSw]; rfl); go_simp; try rfl
    try simp only [Act.put, List.getElem_toArray, List.getElem_cons_succ, List.getElem_cons_zero, List.setIfInBounds_toArray, List.set_cons_zero, List.set_cons_succ]
    refine wpAnyH_take (i := 2) (v := ?_) rfl (by kernel_rfl) (by kernel_rfl) (by kernel_rfl) (fun _ _ _ h => h) (Or.inl ⟨by rfl, ?_⟩) hS ?_
    rotate_left
    · intro w' hSw; go_simp; try rfl
    try simp only [Act.put, List.getElem_toArray, List.getElem_cons_succ, List.getElem_cons_zero, List.setIfInBounds_toArray, List.set_cons_zero, List.set_cons_succ]
    refine wpAnyH_take (i := 3) (v := ?_) rfl (by kernel_rfl) (by kernel_rfl) (by kernel_rfl) (fun _ _ _ h => h) (Or.inl ⟨by rfl, ?_⟩) hS ?_
    rotate_left
    · intro w' hSw; have c1 : w'.cell? ⟨w.heap.size, 3, none⟩ = some dv := (by rw [cell_of_heap hSw]; rfl); go_simp; try rfl
    try simp only [Act.put, List.getElem_toArray, List.getElem_cons_succ, List.getElem_cons_zero, List.setIfInBounds_toArray, List.set_cons_zero, List.set_cons_succ]
    refine wpAnyH_take (i := 5) (v := ?_) rfl (by kernel_rfl) (by kernel_rfl) (by kernel_rfl) (fun _ _ _ h => h) (Or.inl ⟨by rfl, ?_⟩) hS ?_
    rotate_left
    · intro w' hSw; go_simp; try rfl
    try simp only [Act.put, List.getElem_toArray, List.getElem_cons_succ, List.getElem_cons_zero, List.setIfInBounds_toArray, List.set_cons_zero, List.set_cons_succ]
    refine wpAnyH_ready (rs := [4]) (by kernel_rfl) (by simp) ?_
    refine AllReadyH.cons rfl (fun K hK => ?_) AllReadyH.nil
    go_simp
    have hB3 := three_below w (.cells #[.int .i64 3, .int .i64 lba, .int .i64 count, dv, .int .u64 key, .int .i64 res, .bool keep] 25) (.cells #[.int .i64 0, .int .i64 0, .int .i64 0, .slice none 0 0, .int .u64 0, .int .i64 0, .bool false] 25) (.cells #[.int .i64 3, .int .i64 0, .int .i64 0, .slice none 0 0, .int .u64 0, .int .i64 0, .bool false] 25)
    have hM := three_mid w (.cells #[.int .i64 3, .int .i64 lba, .int .i64 count, dv, .int .u64 key, .int .i64 res, .bool keep] 25) (.cells #[.int .i64 0, .int .i64 0, .int .i64 0, .slice none 0 0, .int .u64 0, .int .i64 0, .bool false] 25) (.cells #[.int .i64 3, .int .i64 0, .int .i64 0, .slice none 0 0, .int .u64 0, .int .i64 0, .bool false] 25)
    have hL := three_last w (.cells #[.int .i64 3, .int .i64 lba, .int .i64 count, dv, .int .u64 key, .int .i64 res, .bool keep] 25) (.cells #[.int .i64 0, .int .i64 0, .int .i64 0, .slice none 0 0, .int .u64 0, .int .i64 0, .bool false] 25) (.cells #[.int .i64 3, .int .i64 0, .int .i64 0, .slice none 0 0, .int .u64 0, .int .i64 0, .bool false] 25)
    generalize hW3 : World.alloc (World.alloc (World.alloc _ _) _) _ = w3 at hS hB3 hM hL ⊢
    clear hW3
    refine (C.out _ hB3.drew).mono ?_
    rintro e w4 ⟨v4, rfl, ho4, hb4⟩
    have hS4 : w4.heap[w.heap.size]? = some (.cells #[.int .i64 3, .int .i64 lba, .int .i64 count, dv, .int .u64 key, .int .i64 res, .bool keep] 25 (0, 0)) := (hb4.block _ (lt_of_heap hS)).trans hS
    have hM4 := (hb4.block (w.heap.size + 1) (lt_of_heap hM)).trans hM
    have hL4 := (hb4.block (w.heap.size + 2) (lt_of_heap hL)).trans hL
    have HB4 := Lib.hid (hB3.drew.trans (hb4.mono hB3.size))
    have HO4 := Lib.hid (own_lower ho4 hB3.size)
    have hz3 : w.heap.size + 2 < w3.heap.size := lt_of_heap hL
    have HOB := Lib.hid (fun k (hk : v4.ownBlock = some k) => (ho4.lt k hk).1)
    clear hb4 ho4 hM hL hB3
    go_wp2_with (fail)
    refine hK.out _ _ hS4 (fun hS => ?_)
    clear hK K hS4
    try simp only [Act.put, List.getElem_toArray, List.getElem_cons_succ, List.getElem_cons_zero, List.setIfInBounds_toArray, List.set_cons_zero, List.set_cons_succ]
    refine wpAnyH_ready (rs := [6]) (by kernel_rfl) (by simp) ?_
    refine AllReadyH.cons rfl (fun K hK => ?_) AllReadyH.nil
    have f1 : w4.cell? ⟨w.heap.size + 2, 1, none⟩ = some (.int .i64 0) := by rw [cell_of_heap hL4]; rfl
    have f2 : w4.frozen? ⟨w.heap.size + 2, 1, none⟩ = false := frozen_of_heap hL4 1
    have hL5 := heap_set hL4 1 (.int .i64 lba)
    have hM5 := (Below.heap_setCell w4 ⟨w.heap.size + 2, 1, none⟩ (.int .i64 lba) (w.heap.size + 1) (by show w.heap.size + 1 ≠ w.heap.size + 2; omega)).trans hM4
    have hS5 : (w4.setCell ⟨w.heap.size + 2, 1, none⟩ (.int .i64 lba)).heap[w.heap.size]? = some (.cells #[.int .i64 3, .int .i64 lba, .int .i64 count, dv, .int .u64 key, .int .i64 res, .bool keep] 25 (0, 0)) := (Below.heap_setCell w4 ⟨w.heap.size + 2, 1, none⟩ (.int .i64 lba) w.heap.size (by show w.heap.size ≠ w.heap.size + 2; omega)).trans hS
    go_simp
    refine hK.out _ _ hS5 (fun hS => ?_)
    clear hK K hS5 f1 f2
    try simp only [Act.put, List.getElem_toArray, List.getElem_cons_succ, List.getElem_cons_zero, List.setIfInBounds_toArray, List.set_cons_zero, List.set_cons_succ]
    generalize hw5 : w4.setCell ⟨w.heap.size + 2, 1, none⟩ (.int .i64 lba) = w5 at *
    have HB5 := Lib.hid (show Below w.heap.size w w5 by rw [← hw5]; exact HB4.out.setCell (p := ⟨w.heap.size + 2, 1, none⟩) (by show w.heap.size ≤ w.heap.size + 2; omega) _)
    have HO5 := Lib.hid (show w5.ownsRow w.heap.size 41 16 v4 n (u8s bs) by rw [← hw5]; exact own_kept HO4.out (Only.set (p := ⟨w.heap.size + 2, 1, none⟩) _) (fun k hk hm => by simp at hm; have := HOB.out k hk; simp at this; omega))
    clear hw5 hL4 hM4 HB4 HO4
    refine wpAnyH_take (i := 7) (v := ?_) rfl (by kernel_rfl) (by kernel_rfl) (by kernel_rfl) (fun _ _ _ h => h) (Or.inl ⟨by rfl, ?_⟩) hS ?_
    rotate_left
    · intro w' hSw; go_simp; try rfl
    try simp only [Act.put, List.getElem_toArray, List.getElem_cons_succ, List.getElem_cons_zero, List.setIfInBounds_toArray, List.set_cons_zero, List.set_cons_succ]
    refine wpAnyH_ready (rs := [8]) (by kernel_rfl) (by simp) ?_
    refine AllReadyH.cons rfl (fun K hK => ?_) AllReadyH.nil
    have f1 : w5.cell? ⟨w.heap.size + 2, 3, none⟩ = some (.slice none 0 0) := by rw [cell_of_heap hL5]; rfl
    have f2 : w5.frozen? ⟨w.heap.size + 2, 3, none⟩ = false := frozen_of_heap hL5 3
    have hL6 := heap_set hL5 3 v4
    have hM6 := (Below.heap_setCell w5 ⟨w.heap.size + 2, 3, none⟩ v4 (w.heap.size + 1) (by show w.heap.size + 1 ≠ w.heap.size + 2; omega)).trans hM5
    have hS6 : (w5.setCell ⟨w.heap.size + 2, 3, none⟩ v4).heap[w.heap.size]? = some (.cells #[.int .i64 3, .int .i64 lba, .int .i64 count, dv, .int .u64 key, .int .i64 res, .bool keep] 25 (0, 0)) := (Below.heap_setCell w5 ⟨w.heap.size + 2, 3, none⟩ v4 w.heap.size (by show w.heap.size ≠ w.heap.size + 2; omega)).trans hS
    obtain ⟨A4, cap4, rfl, _, _⟩ := own_form HO5.out
    go_simp
    refine hK.out _ _ hS6 (fun hS => ?_)
    clear hK K hS6 f1 f2 hS
    try simp only [Act.put, List.getElem_toArray, List.getElem_cons_succ, List.getElem_cons_zero, List.setIfInBounds_toArray, List.set_cons_zero, List.set_cons_succ]
    have hL7 : (w5.setCell ⟨w.heap.size + 2, 3, none⟩ (.slice A4 n cap4)).heap[w.heap.size + 2]? = some (.cells #[.int .i64 3, .int .i64 lba, .int .i64 0, .slice A4 n cap4, .int .u64 0, .int .i64 0, .bool false] 25 (0, 0)) := hL6
    clear hL6
    generalize hw6 : w5.setCell ⟨w.heap.size + 2, 3, none⟩ _ = w6 at *
    have HB6 := Lib.hid (show Below w.heap.size w w6 by rw [← hw6]; exact HB5.out.setCell (p := ⟨w.heap.size + 2, 3, none⟩) (by show w.heap.size ≤ w.heap.size + 2; omega) _)
    have HO6 := Lib.hid (show w6.ownsRow w.heap.size 41 16 (.slice A4 n cap4) n (u8s bs) by rw [← hw6]; exact own_kept HO5.out (Only.set (p := ⟨w.heap.size + 2, 3, none⟩) _) (fun k hk hm => by simp at hm; have := HOB.out k hk; simp at this; omega))
    clear hw6 hL5 hM5 HB5 HO5
    refine wpAnyH_done (by kernel_rfl) ?_ _
    go_wp2_with (first | (refine wpList_load_row rfl 25 _ rfl (w.heap.size + 2) rfl 25 #[.int .i64 3, .int .i64 lba, .int .i64 0, .slice A4 n cap4, .int .u64 0, .int .i64 0, .bool false] (0, 0) _ hL7 Try.underlying25 rfl (by kernel_rfl) ?_) | (refine wpList_store_row rfl 25 _ _ rfl (w.heap.size + 1) #[.int .i64 3, .int .i64 lba, .int .i64 0, .slice A4 n cap4, .int .u64 0, .int .i64 0, .bool false] rfl rfl 25 _ hM6 (by kernel_rfl) rfl (row_one _ _ _ _ _ _ _ _ _) ?_))
    refine bodyPost_ret (results_cell_row rfl _ _ (w.heap.size + 1) 25 _ (0, 0) _ rfl (heap_setRow hM6 #[.int .i64 3, .int .i64 lba, .int .i64 0, .slice A4 n cap4, .int .u64 0, .int .i64 0, .bool false]) Try.underlying25 rfl (by kernel_rfl)) rfl ?_
    exact ⟨.slice A4 n cap4, rfl, own_kept HO6.out (Only.setRow _) (fun k hk hm => by simp at hm; have := HOB.out k hk; simp at this; omega), Only.below HB6.out (Only.setRow _) HB6.out.size (by simp)⟩
  · go_enter Try.func17, Try.ntmps17
    go_upto_region 8 with (fail)
    refine wp_region_held_drew (S := fun w' => w'.heap[w.heap.size]? = some (.cells #[.int .i64 5, .int .i64 lba, .int .i64 count, dv, .int .u64 key, .int .i64 res, .bool keep] 25 (0, 0))) (by kernel_rfl) (three_first w _ _ _) (fun hS => ?_)
    refine wpAnyH_take (i := 0) (v := ?_) rfl (by kernel_rfl) (by kernel_rfl) (by kernel_rfl) (fun _ _ _ h => h) (Or.inl ⟨by rfl, ?_⟩) hS ?_
    rotate_left
    · intro w' hSw; go_simp; try rfl
    try simp only [Act.put, List.getElem_toArray, List.getElem_cons_succ, List.getElem_cons_zero, List.setIfInBounds_toArray, List.set_cons_zero, List.set_cons_succ]
    refine wpAnyH_take (i := 1) (v := ?_) rfl (by kernel_rfl) (by kernel_rfl) (by kernel_rfl) (fun _ _ _ h => h) (Or.inl ⟨by rfl, ?_⟩) hS ?_
    rotate_left
    · intro w' hSw; have c1 : w'.cell? ⟨w.heap.size, 1, none⟩ = some (.int .i64 lba) := (by rw [cell_of_heap hSw]; rfl); go_simp; try rfl
    try simp only [Act.put, List.getElem_toArray, List.getElem_cons_succ, List.getElem_cons_zero, List.setIfInBounds_toArray, List.set_cons_zero, List.set_cons_succ]
    refine wpAnyH_take (i := 2) (v := ?_) rfl (by kernel_rfl) (by kernel_rfl) (by kernel_rfl) (fun _ _ _ h => h) (Or.inl ⟨by rfl, ?_⟩) hS ?_
    rotate_left
    · intro w' hSw; go_simp; try rfl
    try simp only [Act.put, List.getElem_toArray, List.getElem_cons_succ, List.getElem_cons_zero, List.setIfInBounds_toArray, List.set_cons_zero, List.set_cons_succ]
    refine wpAnyH_take (i := 3) (v := ?_) rfl (by kernel_rfl) (by kernel_rfl) (by kernel_rfl) (fun _ _ _ h => h) (Or.inl ⟨by rfl, ?_⟩) hS ?_
    rotate_left
    · intro w' hSw; have c1 : w'.cell? ⟨w.heap.size, 3, none⟩ = some dv := (by rw [cell_of_heap hSw]; rfl); go_simp; try rfl
    try simp only [Act.put, List.getElem_toArray, List.getElem_cons_succ, List.getElem_cons_zero, List.setIfInBounds_toArray, List.set_cons_zero, List.set_cons_succ]
    refine wpAnyH_take (i := 5) (v := ?_) rfl (by kernel_rfl) (by kernel_rfl) (by kernel_rfl) (fun _ _ _ h => h) (Or.inl ⟨by rfl, ?_⟩) hS ?_
    rotate_left
    · intro w' hSw; go_simp; try rfl
    try simp only [Act.put, List.getElem_toArray, List.getElem_cons_succ, List.getElem_cons_zero, List.setIfInBounds_toArray, List.set_cons_zero, List.set_cons_succ]
    refine wpAnyH_ready (rs := [4]) (by kernel_rfl) (by simp) ?_
    refine AllReadyH.cons rfl (fun K hK => ?_) AllReadyH.nil
    go_simp
    have hB3 := three_below w (.cells #[.int .i64 5, .int .i64 lba, .int .i64 count, dv, .int .u64 key, .int .i64 res, .bool keep] 25) (.cells #[.int .i64 0, .int .i64 0, .int .i64 0, .slice none 0 0, .int .u64 0, .int .i64 0, .bool false] 25) (.cells #[.int .i64 5, .int .i64 0, .int .i64 0, .slice none 0 0, .int .u64 0, .int .i64 0, .bool false] 25)
    have hM := three_mid w (.cells #[.int .i64 5, .int .i64 lba, .int .i64 count, dv, .int .u64 key, .int .i64 res, .bool keep] 25) (.cells #[.int .i64 0, .int .i64 0, .int .i64 0, .slice none 0 0, .int .u64 0, .int .i64 0, .bool false] 25) (.cells #[.int .i64 5, .int .i64 0, .int .i64 0, .slice none 0 0, .int .u64 0, .int .i64 0, .bool false] 25)
    have hL := three_last w (.cells #[.int .i64 5, .int .i64 lba, .int .i64 count, dv, .int .u64 key, .int .i64 res, .bool keep] 25) (.cells #[.int .i64 0, .int .i64 0, .int .i64 0, .slice none 0 0, .int .u64 0, .int .i64 0, .bool false] 25) (.cells #[.int .i64 5, .int .i64 0, .int .i64 0, .slice none 0 0, .int .u64 0, .int .i64 0, .bool false] 25)
    generalize hW3 : World.alloc (World.alloc (World.alloc _ _) _) _ = w3 at hS hB3 hM hL ⊢
    clear hW3
    refine (C.out _ hB3.drew).mono ?_
    rintro e w4 ⟨v4, rfl, ho4, hb4⟩
    have hS4 : w4.heap[w.heap.size]? = some (.cells #[.int .i64 5, .int .i64 lba, .int .i64 count, dv, .int .u64 key, .int .i64 res, .bool keep] 25 (0, 0)) := (hb4.block _ (lt_of_heap hS)).trans hS
    have hM4 := (hb4.block (w.heap.size + 1) (lt_of_heap hM)).trans hM
    have hL4 := (hb4.block (w.heap.size + 2) (lt_of_heap hL)).trans hL
    have HB4 := Lib.hid (hB3.drew.trans (hb4.mono hB3.size))
    have HO4 := Lib.hid (own_lower ho4 hB3.size)
    have hz3 : w.heap.size + 2 < w3.heap.size := lt_of_heap hL
    have HOB := Lib.hid (fun k (hk : v4.ownBlock = some k) => (ho4.lt k hk).1)
    clear hb4 ho4 hM hL hB3
    go_wp2_with (fail)
    refine hK.out _ _ hS4 (fun hS => ?_)
    clear hK K hS4
    try simp only [Act.put, List.getElem_toArray, List.getElem_cons_succ, List.getElem_cons_zero, List.setIfInBounds_toArray, List.set_cons_zero, List.set_cons_succ]
    refine wpAnyH_ready (rs := [6]) (by kernel_rfl) (by simp) ?_
    refine AllReadyH.cons rfl (fun K hK => ?_) AllReadyH.nil
    have f1 : w4.cell? ⟨w.heap.size + 2, 1, none⟩ = some (.int .i64 0) := by rw [cell_of_heap hL4]; rfl
    have f2 : w4.frozen? ⟨w.heap.size + 2, 1, none⟩ = false := frozen_of_heap hL4 1
    have hL5 := heap_set hL4 1 (.int .i64 lba)
    have hM5 := (Below.heap_setCell w4 ⟨w.heap.size + 2, 1, none⟩ (.int .i64 lba) (w.heap.size + 1) (by show w.heap.size + 1 ≠ w.heap.size + 2; omega)).trans hM4
    have hS5 : (w4.setCell ⟨w.heap.size + 2, 1, none⟩ (.int .i64 lba)).heap[w.heap.size]? = some (.cells #[.int .i64 5, .int .i64 lba, .int .i64 count, dv, .int .u64 key, .int .i64 res, .bool keep] 25 (0, 0)) := (Below.heap_setCell w4 ⟨w.heap.size + 2, 1, none⟩ (.int .i64 lba) w.heap.size (by show w.heap.size ≠ w.heap.size + 2; omega)).trans hS
    go_simp
    refine hK.out _ _ hS5 (fun hS => ?_)
    clear hK K hS5 f1 f2
    try simp only [Act.put, List.getElem_toArray, List.getElem_cons_succ, List.getElem_cons_zero, List.setIfInBounds_toArray, List.set_cons_zero, List.set_cons_succ]
    generalize hw5 : w4.setCell ⟨w.heap.size + 2, 1, none⟩ (.int .i64 lba) = w5 at *
    have HB5 := Lib.hid (show Below w.heap.size w w5 by rw [← hw5]; exact HB4.out.setCell (p := ⟨w.heap.size + 2, 1, none⟩) (by show w.heap.size ≤ w.heap.size + 2; omega) _)
    have HO5 := Lib.hid (show w5.ownsRow w.heap.size 41 16 v4 n (u8s bs) by rw [← hw5]; exact own_kept HO4.out (Only.set (p := ⟨w.heap.size + 2, 1, none⟩) _) (fun k hk hm => by simp at hm; have := HOB.out k hk; simp at this; omega))
    clear hw5 hL4 hM4 HB4 HO4
    refine wpAnyH_take (i := 7) (v := ?_) rfl (by kernel_rfl) (by kernel_rfl) (by kernel_rfl) (fun _ _ _ h => h) (Or.inl ⟨by rfl, ?_⟩) hS ?_
    rotate_left
    · intro w' hSw; go_simp; try rfl
    try simp only [Act.put, List.getElem_toArray, List.getElem_cons_succ, List.getElem_cons_zero, List.setIfInBounds_toArray, List.set_cons_zero, List.set_cons_succ]
    refine wpAnyH_ready (rs := [8]) (by kernel_rfl) (by simp) ?_
    refine AllReadyH.cons rfl (fun K hK => ?_) AllReadyH.nil
    have f1 : w5.cell? ⟨w.heap.size + 2, 3, none⟩ = some (.slice none 0 0) := by rw [cell_of_heap hL5]; rfl
    have f2 : w5.frozen? ⟨w.heap.size + 2, 3, none⟩ = false := frozen_of_heap hL5 3
    have hL6 := heap_set hL5 3 v4
    have hM6 := (Below.heap_setCell w5 ⟨w.heap.size + 2, 3, none⟩ v4 (w.heap.size + 1) (by show w.heap.size + 1 ≠ w.heap.size + 2; omega)).trans hM5
    have hS6 : (w5.setCell ⟨w.heap.size + 2, 3, none⟩ v4).heap[w.heap.size]? = some (.cells #[.int .i64 5, .int .i64 lba, .int .i64 count, dv, .int .u64 key, .int .i64 res, .bool keep] 25 (0, 0)) := (Below.heap_setCell w5 ⟨w.heap.size + 2, 3, none⟩ v4 w.heap.size (by show w.heap.size ≠ w.heap.size + 2; omega)).trans hS
    obtain ⟨A4, cap4, rfl, _, _⟩ := own_form HO5.out
    go_simp
    refine hK.out _ _ hS6 (fun hS => ?_)
    clear hK K hS6 f1 f2 hS
    try simp only [Act.put, List.getElem_toArray, List.getElem_cons_succ, List.getElem_cons_zero, List.setIfInBounds_toArray, List.set_cons_zero, List.set_cons_succ]
    have hL7 : (w5.setCell ⟨w.heap.size + 2, 3, none⟩ (.slice A4 n cap4)).heap[w.heap.size + 2]? = some (.cells #[.int .i64 5, .int .i64 lba, .int .i64 0, .slice A4 n cap4, .int .u64 0, .int .i64 0, .bool false] 25 (0, 0)) := hL6
    clear hL6
    generalize hw6 : w5.setCell ⟨w.heap.size + 2, 3, none⟩ _ = w6 at *
    have HB6 := Lib.hid (show Below w.heap.size w w6 by rw [← hw6]; exact HB5.out.setCell (p := ⟨w.heap.size + 2, 3, none⟩) (by show w.heap.size ≤ w.heap.size + 2; omega) _)
    have HO6 := Lib.hid (show w6.ownsRow w.heap.size 41 16 (.slice A4 n cap4) n (u8s bs) by rw [← hw6]; exact own_kept HO5.out (Only.set (p := ⟨w.heap.size + 2, 3, none⟩) _) (fun k hk hm => by simp at hm; have := HOB.out k hk; simp at this; omega))
    clear hw6 hL5 hM5 HB5 HO5
    refine wpAnyH_done (by kernel_rfl) ?_ _
    go_wp2_with (first | (refine wpList_load_row rfl 25 _ rfl (w.heap.size + 2) rfl 25 #[.int .i64 5, .int .i64 lba, .int .i64 0, .slice A4 n cap4, .int .u64 0, .int .i64 0, .bool false] (0, 0) _ hL7 Try.underlying25 rfl (by kernel_rfl) ?_) | (refine wpList_store_row rfl 25 _ _ rfl (w.heap.size + 1) #[.int .i64 5, .int .i64 lba, .int .i64 0, .slice A4 n cap4, .int .u64 0, .int .i64 0, .bool false] rfl rfl 25 _ hM6 (by kernel_rfl) rfl (row_one _ _ _ _ _ _ _ _ _) ?_))
    refine bodyPost_ret (results_cell_row rfl _ _ (w.heap.size + 1) 25 _ (0, 0) _ rfl (heap_setRow hM6 #[.int .i64 5, .int .i64 lba, .int .i64 0, .slice A4 n cap4, .int .u64 0, .int .i64 0, .bool false]) Try.underlying25 rfl (by kernel_rfl)) rfl ?_
    exact ⟨.slice A4 n cap4, rfl, own_kept HO6.out (Only.setRow _) (fun k hk hm => by simp at hm; have := HOB.out k hk; simp at this; omega), Only.below HB6.out (Only.setRow _) HB6.out.size (by simp)⟩
theorem plain_any (c : Cmd) (dv : Value) (w : World) (hs : Secs w dv c) (hl : c.n * 16 ≤ 140737488355328) :
    Calls Try.prog 17 #[c.val dv] w fun e w' => ∃ dv', e = .returned (c.plain.val dv') ∧ Own w' w.heap.size dv' c.plain ∧ Below w.heap.size w w' := by
  by_cases h2 : c.kind = 2; exact plain_2 c dv w h2
  by_cases h3 : c.kind = 3; exact plain_data c dv w (.inl h3) hs hl
  by_cases h5 : c.kind = 5; exact plain_data c dv w (.inr h5) hs hl
  by_cases h6 : c.kind = 6; exact plain_6 c dv w h6
  by_cases h7 : c.kind = 7; exact plain_7 c dv w h7
  by_cases h8 : c.kind = 8; exact plain_8 c dv w h8
  by_cases h11 : c.kind = 11; exact plain_11 c dv w h11
  exact plain_none c dv w h2 h3 h5 h6 h7 h8 h11
end Go.Proofs.Ytlkibkemmmppcaa.Wd
