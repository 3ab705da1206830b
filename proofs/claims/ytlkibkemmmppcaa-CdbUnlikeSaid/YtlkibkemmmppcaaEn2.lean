/- Encode of what is no command; Put; bytes compared. -/
import Derived.Test.YtlkibkemmmppcaaEnc
namespace Go.Proofs.Ytlkibkemmmppcaa.Wd
open Go.RowKit
set_option linter.unusedVariables false
set_option linter.unusedSimpArgs false
set_option maxRecDepth 100000 in
set_option maxHeartbeats 8000000 in
theorem enc_bad (c : Cmd) (dv : Value) (w : World) (hs : Secs w dv c) (hl : c.n * 16 ≤ 140737488355328) (hok : ¬ c.plain.ok) :
    Calls Try.prog 8 #[c.val dv] w fun e w' => e = .returned (.tuple #[.slice none 0 0, .int .i64 2]) ∧ Below w.heap.size w w' := by
  have HOK := Lib.hid hok
  clear hok
  have HB1 : ∀ o, Below w.heap.size w (w.alloc o) := fun o => balloc w o
  have HX1 : ∀ cs, (w.alloc (.cells cs 25)).heap[w.heap.size]? = some (.cells cs 25 (0, 0)) := fun cs => heap_alloc_new w _
  have HC : ∀ o, Calls Try.prog 17 #[c.val dv] (w.alloc o) fun e w' => ∃ dv', e = .returned (c.plain.val dv') ∧ Own w' (w.alloc o).heap.size dv' c.plain ∧ Below (w.alloc o).heap.size (w.alloc o) w' := fun o => plain_any c dv (w.alloc o) (hs.below (HB1 o)) hl
  have C := Lib.hid HC
  clear HC hs
  generalize c.plain = p at *
  obtain ⟨kind, lba, count, n, bs, key, res, keep⟩ := c
  simp only at hl
  unfold Cmd.val at C ⊢
  go_enter Try.func8, Try.ntmps8
  go_wp2_with (fail)
  refine (C.out _).mono ?_
  rintro e w2 ⟨dv2, rfl, ho2, hb2⟩
  have hx2 := (hb2.block w.heap.size (by simp)).trans (HX1 _)
  obtain ⟨A, cap, rfl, _, _⟩ := own_form ho2
  have HO2 := Lib.hid ho2
  have HBB := Lib.hid ((HB1 _).trans (hb2.mono (HB1 _).size))
  clear C HB1 HX1 ho2 hb2
  obtain ⟨kind, lba, count, n, bs, key, res, keep⟩ := p
  simp only at *
  go_upto_region 2 with (first | (refine wpList_store_row rfl 25 _ _ rfl w.heap.size _ rfl rfl 25 _ hx2 (by kernel_rfl) rfl (row_one _ _ _ _ _ _ _ _ _) ?_))
  have hlt := lt_of_heap hx2
  have T3 : (w2.setRow w.heap.size #[.int .i64 kind, .int .i64 lba, .int .i64 count, .slice A n cap, .int .u64 key, .int .i64 res, .bool keep]).heap[w.heap.size]? = some (.cells #[.int .i64 kind, .int .i64 lba, .int .i64 count, .slice A n cap, .int .u64 key, .int .i64 res, .bool keep] 25 (0, 0)) := heap_setRow hx2 _
  have B3 : Below w.heap.size w (w2.setRow w.heap.size #[.int .i64 kind, .int .i64 lba, .int .i64 count, .slice A n cap, .int .u64 key, .int .i64 res, .bool keep]) := Only.below HBB.out (Only.setRow _) HBB.out.size (by simp)
  have O3 : (w2.setRow w.heap.size #[.int .i64 kind, .int .i64 lba, .int .i64 count, .slice A n cap, .int .u64 key, .int .i64 res, .bool keep]).ownsRow (w.heap.size + 1) 41 16 (.slice A n cap) n (u8s bs) := own_kept (own_lower HO2.out (by simp)) (Only.setRow _) (fun k hk hm => by simp at hm; have := (HO2.out.lt k hk).1; simp at this; omega)
  generalize World.setRow _ _ _ = w3 at *
  have HX3 := Lib.hid T3
  have HB3 := Lib.hid B3
  have HO3 := Lib.hid O3
  have hb1 : w.heap.size < w3.heap.size := lt_of_heap T3
  clear T3 B3 O3 hx2 HO2 HBB hlt
  obtain ⟨c0, c1, c2, c3, c4, c5, c6⟩ := row_cells HX3.out
  have HOK : Hid (¬ (1 ≤ kind ∧ kind ≤ 11 ∧ 0 ≤ lba ∧ lba ≤ 2147483647 ∧ 0 ≤ count ∧ count ≤ 65535 ∧ 0 ≤ res ∧ res ≤ 65535 ∧ n ≤ 8)) := HOK
  by_cases r0 : kind < 1
  · have e0 : decide (kind < 1) = true := decide_eq_true r0
    clear r0
    go_wp2_with (fail)
    go_ret2
    exact ⟨rfl, HB3.out⟩
  by_cases r1 : 11 < kind
  · have e0 : decide (kind < 1) = false := decide_eq_false r0
    have e1 : decide (11 < kind) = true := decide_eq_true r1
    clear r0 r1
    go_wp2_with (fail)
    go_ret2
    exact ⟨rfl, HB3.out⟩
  by_cases r2 : lba < 0
  · have e0 : decide (kind < 1) = false := decide_eq_false r0
    have e1 : decide (11 < kind) = false := decide_eq_false r1
    have e2 : decide (lba < 0) = true := decide_eq_true r2
    clear r0 r1 r2
    go_wp2_with (fail)
    go_ret2
    exact ⟨rfl, HB3.out⟩
  by_cases r3 : 2147483647 < lba
  · have e0 : decide (kind < 1) = false := decide_eq_false r0
    have e1 : decide (11 < kind) = false := decide_eq_false r1
    have e2 : decide (lba < 0) = false := decide_eq_false r2
    have e3 : decide (2147483647 < lba) = true := decide_eq_true r3
    clear r0 r1 r2 r3
    go_wp2_with (fail)
    go_ret2
    exact ⟨rfl, HB3.out⟩
  by_cases r4 : count < 0
  · have e0 : decide (kind < 1) = false := decide_eq_false r0
    have e1 : decide (11 < kind) = false := decide_eq_false r1
    have e2 : decide (lba < 0) = false := decide_eq_false r2
    have e3 : decide (2147483647 < lba) = false := decide_eq_false r3
    have e4 : decide (count < 0) = true := decide_eq_true r4
    clear r0 r1 r2 r3 r4
    go_wp2_with (fail)
    go_ret2
    exact ⟨rfl, HB3.out⟩
  by_cases r5 : 65535 < count
  · have e0 : decide (kind < 1) = false := decide_eq_false r0
    have e1 : decide (11 < kind) = false := decide_eq_false r1
    have e2 : decide (lba < 0) = false := decide_eq_false r2
    have e3 : decide (2147483647 < lba) = false := decide_eq_false r3
    have e4 : decide (count < 0) = false := decide_eq_false r4
    have e5 : decide (65535 < count) = true := decide_eq_true r5
    clear r0 r1 r2 r3 r4 r5
    go_wp2_with (fail)
    go_ret2
    exact ⟨rfl, HB3.out⟩
  by_cases r6 : res < 0
  · have e0 : decide (kind < 1) = false := decide_eq_false r0
    have e1 : decide (11 < kind) = false := decide_eq_false r1
    have e2 : decide (lba < 0) = false := decide_eq_false r2
    have e3 : decide (2147483647 < lba) = false := decide_eq_false r3
    have e4 : decide (count < 0) = false := decide_eq_false r4
    have e5 : decide (65535 < count) = false := decide_eq_false r5
    have e6 : decide (res < 0) = true := decide_eq_true r6
    clear r0 r1 r2 r3 r4 r5 r6
    go_wp2_with (fail)
    go_ret2
    exact ⟨rfl, HB3.out⟩
  by_cases r7 : 65535 < res
  · have e0 : decide (kind < 1) = false := decide_eq_false r0
    have e1 : decide (11 < kind) = false := decide_eq_false r1
    have e2 : decide (lba < 0) = false := decide_eq_false r2
    have e3 : decide (2147483647 < lba) = false := decide_eq_false r3
    have e4 : decide (count < 0) = false := decide_eq_false r4
    have e5 : decide (65535 < count) = false := decide_eq_false r5
    have e6 : decide (res < 0) = false := decide_eq_false r6
    have e7 : decide (65535 < res) = true := decide_eq_true r7
    clear r0 r1 r2 r3 r4 r5 r6 r7
    go_wp2_with (fail)
    go_ret2
    exact ⟨rfl, HB3.out⟩
  by_cases r8 : (8 : Int) < (n : Int)
  · have e0 : decide (kind < 1) = false := decide_eq_false r0
    have e1 : decide (11 < kind) = false := decide_eq_false r1
    have e2 : decide (lba < 0) = false := decide_eq_false r2
    have e3 : decide (2147483647 < lba) = false := decide_eq_false r3
    have e4 : decide (count < 0) = false := decide_eq_false r4
    have e5 : decide (65535 < count) = false := decide_eq_false r5
    have e6 : decide (res < 0) = false := decide_eq_false r6
    have e7 : decide (65535 < res) = false := decide_eq_false r7
    have e8 : decide ((8 : Int) < (n : Int)) = true := decide_eq_true r8
    clear r0 r1 r2 r3 r4 r5 r6 r7 r8
    go_wp2_with (fail)
    go_ret2
    exact ⟨rfl, HB3.out⟩
  exact absurd ⟨by omega, by omega, by omega, by omega, by omega, by omega, by omega, by omega, by omega⟩ HOK.out
end Go.Proofs.Ytlkibkemmmppcaa.Wd
