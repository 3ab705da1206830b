/- own: a command of its own; the document's names and Plain. -/
import Derived.Test.YtjpdjhmajjbgmaaCmd
namespace Go.Proofs.Ytjpdjhmajjbgmaa.Wd
open Go.RowKit
set_option linter.unusedVariables false
set_option linter.unusedSimpArgs false
theorem two_first (w : World) (a b : Obj) : ((w.alloc a).alloc b).heap[w.heap.size]? = some a := (Below.heap_alloc _ _ _ (by simp)).trans (heap_alloc_new _ _)
theorem two_last (w : World) (a b : Obj) : ((w.alloc a).alloc b).heap[w.heap.size + 1]? = some b := by
  have e : w.heap.size + 1 = (w.alloc a).heap.size := by simp
  rw [e]
  exact heap_alloc_new _ _
theorem two_below (w : World) (a b : Obj) : Below w.heap.size w ((w.alloc a).alloc b) := ((Below.refl _ _).alloc (Nat.le_refl _) _).alloc (by simp) _
set_option maxRecDepth 100000 in
set_option maxHeartbeats 4000000 in
theorem own_any (c : Cmd) (dv : Value) (w : World) (hs : Secs w dv c) (hl : c.n * 16 ≤ 140737488355328) :
    Calls Try.prog 12 #[c.val dv] w fun e w' => ∃ dv', e = .returned (c.val dv') ∧ Own w' w.heap.size dv' c ∧ Below w.heap.size w w' := by
  have hB : ∀ a b, Below w.heap.size w ((w.alloc a).alloc b) := two_below w
  have hC : ∀ a b, ∃ v' w', (Builtin.append_ #[22, 22] 22 #[.slice (some ⟨w.heap.size + 1 + 1, 0, none⟩) 0 0, dv]).run Try.prog (((w.alloc a).alloc b).alloc (.cells #[] 24)) = .ok v' w' ∧ w'.ownsRow (w.heap.size + 2) 24 16 v' c.n (u8s c.bs) ∧ Below (w.heap.size + 2) ((w.alloc a).alloc b) w' := fun a b => by
    obtain ⟨v', w', h1, h2, h3, _⟩ := copy_secs ((w.alloc a).alloc b) dv c.n (u8s c.bs) (hs.below (hB a b)) (u8s_one _) hl
    have e : ((w.alloc a).alloc b).heap.size = w.heap.size + 1 + 1 := by simp
    rw [e] at h1 h2 h3
    exact ⟨v', w', h1, h2, h3⟩
  obtain ⟨v1, w1, hr, ho, hb⟩ := hC (.cells #[.int .i64 c.kind, .int .i64 c.lba, .int .i64 c.count, dv, .int .u64 c.key, .int .i64 c.res, .bool c.keep] 35) (.cells #[.int .i64 0, .int .i64 0, .int .i64 0, .slice none 0 0, .int .u64 0, .int .i64 0, .bool false] 35)
  have hX := (hb.block w.heap.size (by omega)).trans (two_first w _ _)
  have hY := (hb.block (w.heap.size + 1) (by omega)).trans (two_last w _ _)
  have HB := Lib.hid ((hB _ _).trans (hb.mono (by omega)))
  have HO := Lib.hid ho
  have HR := Lib.hid hr
  obtain ⟨A, cap, rfl, _, _⟩ := own_form ho
  clear hB hC hr ho hb hs hl
  obtain ⟨kind, lba, count, n, bs, key, res, keep⟩ := c
  simp only at *
  unfold Cmd.val
  have f3 : w1.cell? ⟨w.heap.size, 3, none⟩ = some dv := by rw [cell_of_heap hX]; rfl
  have g3 : w1.frozen? ⟨w.heap.size, 3, none⟩ = false := frozen_of_heap hX 3
  have hX2 : (w1.setCell ⟨w.heap.size, 3, none⟩ (.slice A n cap)).heap[w.heap.size]? = some (.cells #[.int .i64 kind, .int .i64 lba, .int .i64 count, .slice A n cap, .int .u64 key, .int .i64 res, .bool keep] 35 (0, 0)) := heap_set hX 3 (.slice A n cap)
  have hY2 := (Below.heap_setCell w1 ⟨w.heap.size, 3, none⟩ (.slice A n cap) (w.heap.size + 1) (by show w.heap.size + 1 ≠ w.heap.size; omega)).trans hY
  go_enter Try.func12, Try.ntmps12
  go_wp2_with (first
    | (at_builtin; refine wpList_append_ran rfl (.tmp 3) (.tmp 5) 22 rfl _ _ rfl rfl _ w1 HR.out ?_)
    | (refine wpList_load_row rfl 35 _ rfl w.heap.size rfl 35 _ (0, 0) _ hX2 Try.underlying35 rfl (by kernel_rfl) ?_)
    | (refine wpList_store_row rfl 35 _ _ rfl (w.heap.size + 1) _ rfl rfl 35 _ hY2 (by kernel_rfl) rfl (row_one _ _ _ _ _ _ _ _ _) ?_))
  refine bodyPost_ret (results_cell_row rfl _ _ (w.heap.size + 1) 35 _ (0, 0) _ rfl (heap_setRow hY2 _) Try.underlying35 rfl (by kernel_rfl)) rfl ?_
  have hk : ∀ k, (Value.slice A n cap).ownBlock = some k → w.heap.size + 2 ≤ k := fun k h => (HO.out.lt k h).1
  refine ⟨.slice A n cap, rfl, own_lower (own_kept (own_kept HO.out (Only.set (p := ⟨w.heap.size, 3, none⟩) _) (fun k h hm => by have := hk k h; simp at hm; omega)) (Only.setRow _) (fun k h hm => by have := hk k h; simp at hm; omega)) (by omega), ?_⟩
  exact Only.below (HB.out.setCell (p := ⟨w.heap.size, 3, none⟩) (by show w.heap.size ≤ w.heap.size; omega) _) (Only.setRow _) (by have := HB.out.size; simp [World.setCell]; omega) (by simp)
end Go.Proofs.Ytjpdjhmajjbgmaa.Wd
