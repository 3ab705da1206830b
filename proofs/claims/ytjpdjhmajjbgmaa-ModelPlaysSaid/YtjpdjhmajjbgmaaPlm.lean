/- Smaller contracts that ModelPlays needs. -/
import Derived.Test.YtjpdjhmajjbgmaaRdo
set_option linter.unusedVariables false
set_option linter.unusedSimpArgs false
namespace Go.Proofs.Ytjpdjhmajjbgmaa.Md
open Go Go.RowKit Res
open Wd (Cmd u8s balloc Rd)
set_option maxRecDepth 100000 in
set_option maxHeartbeats 4000000 in
theorem lose_unit (g gd gs : Nat) (d : Dk) (n : Nat) (bs : List Int) (w : World) (h : HasU w g gd gs d n bs) : Calls Try.prog 15 #[.pointer (some ⟨g, 0, none⟩)] w fun e w' => e = .returned (.tuple #[]) ∧ HasU w' g gd gs d.lose n bs ∧ Only [gd] w w' := by
  have H := Lib.hid h
  have k0 := h.pcell
  have HL := Lib.hid (Lose_any gd d w h.d)
  clear h
  go_enter Try.func15, Try.ntmps15
  go_wp2_with (fail)
  refine (HL.out).mono ?_
  rintro e w2 ⟨rfl, hd, ho⟩
  have HU := Lib.hid (H.out.desk ho hd)
  have HO := Lib.hid ho
  clear hd ho HL k0
  go_wp2_with (fail)
  go_end0
  exact ⟨rfl, HU.out, HO.out⟩
set_option maxRecDepth 100000 in
set_option maxHeartbeats 4000000 in
theorem sector_out (g gd gs : Nat) (d : Dk) (n : Nat) (i : Int) (bs : List Int) (w : World) (h : HasU w g gd gs d n bs) (hi : i < 0 ∨ (n : Int) ≤ i) :
    Calls Try.prog 11 #[.pointer (some ⟨g, 0, none⟩), .int .i64 i] w fun e w' => e = .returned (.tuple #[sval zsec, .int .i64 2]) ∧ Below w.heap.size w w' := by
  have hB := balloc w (.cells zlit 24)
  have hc := (h.below hB).scell
  have HB := Lib.hid hB
  have hnew : (w.alloc (.cells zlit 24)).heap[w.heap.size]? = some (.cells zlit 24 (0, 0)) := heap_alloc_new w _
  clear hB h
  unfold zlit at *
  unfold sval
  rw [zsec_eq]
  by_cases h0 : i < 0
  · clear hc hi
    go_enter Try.func11, Try.ntmps11
    go_wp2_with (first
      | (refine wpList_store_row rfl 24 _ _ rfl w.heap.size _ rfl rfl 24 _ hnew (by kernel_rfl) rfl zsec_one ?_))
    refine bodyPost_ret (results_ct rfl _ _ w.heap.size 24 _ (0, 0) _ rfl (Wd.heap_setRow hnew _) Try.underlying24 rfl (by kernel_rfl)) rfl ?_
    exact ⟨rfl, Only.below HB.out (Only.setRow (g := w.heap.size) _) HB.out.size (by simp)⟩
  · have h1 : (n : Int) ≤ i := hi.resolve_left h0
    clear hi
    go_enter Try.func11, Try.ntmps11
    go_wp2_with (first
      | (refine wpList_store_row rfl 24 _ _ rfl w.heap.size _ rfl rfl 24 _ hnew (by kernel_rfl) rfl zsec_one ?_))
    refine bodyPost_ret (results_ct rfl _ _ w.heap.size 24 _ (0, 0) _ rfl (Wd.heap_setRow hnew _) Try.underlying24 rfl (by kernel_rfl)) rfl ?_
    exact ⟨rfl, Only.below HB.out (Only.setRow (g := w.heap.size) _) HB.out.size (by simp)⟩
set_option maxRecDepth 100000 in
set_option maxHeartbeats 4000000 in
theorem new_bad (cap : Int) (w : World) (h : cap < 1 ∨ 65536 < cap) : Calls Try.prog 8 #[.int .i64 cap] w fun e w' => e = .returned (.tuple #[.pointer none, .int .i64 2]) ∧ w' = w := by
  by_cases h0 : cap < 1
  · clear h
    go_enter Try.func8, Try.ntmps8
    go_wp2_with (fail)
    refine bodyPost_ret (results_2 rfl _ _) rfl ?_
    exact ⟨rfl, rfl⟩
  · have h1 := h.resolve_left h0
    clear h
    go_enter Try.func8, Try.ntmps8
    go_wp2_with (fail)
    refine bodyPost_ret (results_2 rfl _ _) rfl ?_
    exact ⟨rfl, rfl⟩
set_option maxRecDepth 100000 in
set_option maxHeartbeats 4000000 in
theorem rnew_any (n : Nat) (h1 : 1 ≤ n) (h2 : n ≤ 65536) (w : World) : Calls Try.prog 14 #[.int .i64 (n : Int)] w fun e w' => ∃ r c, e = .returned (.agg (ucells Dk.new (.slice (some ⟨r, 0, none⟩) n c))) ∧ w'.ownsRow w.heap.size 24 16 (.slice (some ⟨r, 0, none⟩) n c) n (u8s (List.replicate (n * 16) 0)) ∧ Below w.heap.size w w' := by
  obtain ⟨fs48, hu48⟩ := u48
  have HU48 := Lib.hid hu48
  have hmk := mk16 n h2
  have hX : ((w.alloc (.cells (ucells Dk.new (.slice none 0 0)) 48)).alloc (.cells (u8s (List.replicate (n * 16) 0)).toArray 24)).heap[w.heap.size]? = some (.cells (ucells Dk.new (.slice none 0 0)) 48 (0, 0)) := Wd.two_first _ _ _
  have hY : ((w.alloc (.cells (ucells Dk.new (.slice none 0 0)) 48)).alloc (.cells (u8s (List.replicate (n * 16) 0)).toArray 24)).heap[w.heap.size + 1]? = some (.cells (u8s (List.replicate (n * 16) 0)).toArray 24 (0, 0)) := Wd.two_last _ _ _
  have hB := Wd.two_below w (.cells (ucells Dk.new (.slice none 0 0)) 48) (.cells (u8s (List.replicate (n * 16) 0)).toArray 24)
  have HX := Lib.hid hX
  have HY := Lib.hid hY
  have HB := Lib.hid hB
  clear hX hY hB hu48
  have HZ := Lib.hid (show (u8s (List.replicate (n * 16) 0)).toArray.size = n * 16 from by simp [u8s_len])
  generalize hzz : u8s (List.replicate (n * 16) 0) = Z at *
  go_enter Try.func14, Try.ntmps14
  go_wp2_with (first
    | (refine wpList_store_row rfl 48 _ _ rfl w.heap.size (ucells Dk.new (.slice (some ⟨w.heap.size + 1, 0, none⟩) n n)) rfl rfl 48 _ HX.out (info48 rfl _) rfl uone ?_))
  have ho := Only.setRow (w := (w.alloc (.cells (ucells Dk.new (.slice none 0 0)) 48)).alloc (.cells Z.toArray 24)) (g := w.heap.size) (ucells Dk.new (.slice (some ⟨w.heap.size + 1, 0, none⟩) n n))
  refine bodyPost_ret (results_cell_row rfl _ _ w.heap.size 48 _ (0, 0) _ rfl (Wd.heap_setRow HX.out _) HU48.out rfl (info48 rfl _)) rfl ?_
  refine ⟨w.heap.size + 1, n, rfl, ⟨by have := HZ.out; simpa using this, .inr ⟨w.heap.size + 1, n, Z.toArray, rfl, by omega, (ho.block _ (lt_of_heap HY.out) (by simp)).trans HY.out, Nat.le_refl _, by unfold maxLen; omega, HZ.out, ?_⟩⟩, Only.below HB.out ho HB.out.size (by simp)⟩
  have := HZ.out
  rw [List.take_of_length_le (by simpa using Nat.le_of_eq this)]
end Go.Proofs.Ytjpdjhmajjbgmaa.Md
