/- The document's functions, walked: none, Lose, Clear. -/
import Derived.Test.YtjpdjhmajjbgmaaRef1
namespace Go.Proofs.Ytjpdjhmajjbgmaa.Res
open Go.RowKit
set_option linter.unusedVariables false
set_option maxRecDepth 100000 in
theorem rnone_any (d : Dk) (w : World) (hl : d.keys.length = 16) :
    Calls Try.prog 23 #[.agg d.cells] w fun e w' => e = .returned (.agg d.wiped.cells) ∧ Below w.heap.size w w' := by
  obtain ⟨fs, hu⟩ := u41
  have HU := Lib.hid hu
  have HDX : Hid (d.wiped = d.wiped) := Lib.hid rfl
  have HLL : Hid (d.wiped.keys.length = 16) := Lib.hid rfl
  go_enter Try.func23, Try.ntmps23
  go_upto_region 1 with (fail)
  generalize hw : World.alloc (World.alloc _ _) _ = w1
  have T1 : Two w w1 w.heap.size (w.heap.size + 1) d Dk.new := by rw [← hw]; exact two_start w d hl
  have HT := Lib.hid T1
  have c5 : w1.cell? ⟨w.heap.size, 18, none⟩ = some (.bool d.keep) := T1.box.keepCell
  clear hw T1 hu
  go_wp2_with (refine wpList_store_row rfl 46 _ _ rfl _ (d.wiped).cells rfl rfl 46 _ HT.out.res.heap (info41 HLL.out) (by rw [cells_size HLL.out, cells_size HT.out.res.len]) (one41 _) ?_)
  have T9 := HT.out.onRes (Only.setRow d.wiped.cells) (HT.out.res.setRow d.wiped rfl)
  generalize World.setRow _ _ _ = w9 at *
  have HT9 := Lib.hid T9
  clear T9
  go_wp2_with (fail)
  try simp only [Exit.inBlock, Exit.then]
  refine bodyPost_ret (results_cell_row rfl _ _ _ 46 _ (0, 0) _ rfl HT9.out.res.heap HU.out rfl (info41 HT9.out.res.len)) rfl ?_
  exact ⟨rfl, HT9.out.below⟩
theorem lose_len (d : Dk) (hl : d.keys.length = 16) : d.lose.keys.length = 16 := by unfold Dk.lose; split; exact hl; rfl
set_option maxRecDepth 100000 in
theorem rLose_any (d : Dk) (w : World) (hl : d.keys.length = 16) :
    Calls Try.prog 16 #[.agg d.cells] w fun e w' => e = .returned (.agg d.lose.cells) ∧ Below w.heap.size w w' := by
  obtain ⟨fs, hu⟩ := u41
  have HU := Lib.hid hu
  have N0 := Lib.hid (fun W => rnone_any d W hl)
  go_enter Try.func16, Try.ntmps16
  go_upto_region 1 with (fail)
  generalize hw : World.alloc (World.alloc _ _) _ = w1
  have T1 : Two w w1 w.heap.size (w.heap.size + 1) d Dk.new := by rw [← hw]; exact two_start w d hl
  have HT := Lib.hid T1
  have HB := Lib.hid T1.below
  have c5 : w1.cell? ⟨w.heap.size, 18, none⟩ = some (.bool d.keep) := T1.box.keepCell
  clear hw T1 hu
  cases hk : d.keep with
  | true =>
    rw [hk] at c5
    have HDX : Hid (d.lose = d) := Lib.hid (by unfold Dk.lose; rw [hk]; rfl)
    have HLL := Lib.hid hl
    clear hk hl
    go_wp2_with (first | (refine wpList_load_row rfl 46 _ rfl _ rfl 46 _ (0, 0) _ HT.out.box.heap HU.out rfl (info41 HT.out.box.len) ?_) | (refine wpList_store_row rfl 46 _ _ rfl _ (d).cells rfl rfl 46 _ HT.out.res.heap (info41 HLL.out) (by rw [cells_size HLL.out, cells_size HT.out.res.len]) (one41 _) ?_))
    have T9 := HT.out.onRes (Only.setRow (d).cells) (HT.out.res.setRow (d) HT.out.box.len)
    generalize World.setRow _ _ _ = w9 at *
    have HT9 := Lib.hid T9
    clear T9
    go_wp2_with (fail)
    try simp only [Exit.inBlock, Exit.then]
    refine bodyPost_ret (results_cell_row rfl _ _ _ 46 _ (0, 0) _ rfl HT9.out.res.heap HU.out rfl (info41 HT9.out.res.len)) rfl ?_
    exact ⟨by rw [HDX.out], HT9.out.below⟩
  | false =>
    rw [hk] at c5
    have HDX : Hid (d.lose = d.wiped) := Lib.hid (by unfold Dk.lose; rw [hk]; rfl)
    have HLL : Hid (d.wiped.keys.length = 16) := Lib.hid rfl
    clear hk hl
    go_wp2_with (first | (refine wpList_load_row rfl 46 _ rfl _ rfl 46 _ (0, 0) _ HT.out.box.heap HU.out rfl (info41 HT.out.box.len) ?_))
    refine (N0.out _).mono ?_
    rintro e w2 ⟨rfl, hb2⟩
    have HT' := Lib.hid (HT.out.kept hb2)
    clear hb2 c5 HT HB
    have HT := HT'
    clear HT'
    go_wp2_with (first | (refine wpList_store_row rfl 46 _ _ rfl _ (d.wiped).cells rfl rfl 46 _ HT.out.res.heap (info41 HLL.out) (by rw [cells_size HLL.out, cells_size HT.out.res.len]) (one41 _) ?_))
    have T9 := HT.out.onRes (Only.setRow (d.wiped).cells) (HT.out.res.setRow (d.wiped) rfl)
    generalize World.setRow _ _ _ = w9 at *
    have HT9 := Lib.hid T9
    clear T9
    go_wp2_with (fail)
    try simp only [Exit.inBlock, Exit.then]
    refine bodyPost_ret (results_cell_row rfl _ _ _ 46 _ (0, 0) _ rfl HT9.out.res.heap HU.out rfl (info41 HT9.out.res.len)) rfl ?_
    exact ⟨by rw [HDX.out], HT9.out.below⟩
set_option maxRecDepth 100000 in
theorem rClear_any (d : Dk) (n : Int) (w : World) (hl : d.keys.length = 16) :
    Calls Try.prog 38 #[.agg d.cells, .int .i64 n] w fun e w' => e = .returned (.tuple #[.int .i64 (d.fault n), .agg (d.clr n).cells]) ∧ Below w.heap.size w w' := by
  obtain ⟨fs, hu⟩ := u41
  have HU := Lib.hid hu
  have C0 := fun W => rin_any n W
  have T0 := two_start w d hl
  have N0 := Lib.hid (fun W => rnone_any d W hl)
  by_cases hi : isIn n
  · rw [decide_eq_true hi] at C0
    obtain ⟨m, rfl⟩ := Int.eq_ofNat_of_zero_le hi.1
    have hm : m < 16 := by have := hi.2; omega
    by_cases hz : d.key m = 0
    · have hzb := bT hz
      have hE : d.fault (m : Int) = 10 := fault_none hi (by simpa using hz)
      have HDX : Hid (d.clr (m : Int) = d) := Lib.hid (by unfold Dk.clr; rw [if_neg (by rw [hE]; decide)])
      have HE := Lib.hid hE
      clear hE hi hu hl hz
      go_enter Try.func38, Try.ntmps38
      go_wp2_with (fail)
      refine (C0 _).mono ?_
      rintro e w1 ⟨rfl, hw1⟩
      have T1 : Two w w1 w.heap.size (w.heap.size + 1) d Dk.new := by rw [hw1]; exact T0
      have HT1 := Lib.hid T1
      have c1 : w1.cell? ⟨w.heap.size, m, none⟩ = some (.int .u64 (d.key m)) := T1.box.keyCell hm
      clear hw1 T0 T1 C0
      go_wp2_with (fail)
      have HT := HT1
      refine wp_region_still_tail 2 (by kernel_rfl) (by kernel_rfl) ?_
      simp only [List.take_succ_cons, List.take_zero, List.drop_succ_cons, List.drop_zero]
      refine wpStill_load_row rfl 46 _ rfl _ rfl 46 _ (0, 0) _ (HT.out).box.heap HU.out rfl (info41 (HT.out).box.len) ?_
      still_step
      refine wpStill_nil ?_
      change wpList _ _ _ _ _ (World.drew _)
      refine wpList_store_row rfl 46 _ _ rfl _ _ rfl rfl 46 _ (HT.out).drew_.res.heap (info41 (HT.out).box.len) (by rw [cells_size (HT.out).box.len, cells_size (HT.out).res.len]) (one41 _) ?_
      have T9 := HT.out.drew_.onRes (Only.setRow d.cells) (HT.out.drew_.res.setRow d HT.out.box.len)
      generalize World.setRow _ _ _ = w9 at *
      have HT9 := Lib.hid T9
      clear T9
      go_wp2_with (fail)
      try simp only [Exit.inBlock, Exit.then]
      refine bodyPost_ret (results_tc rfl _ _ _ 46 _ (0, 0) _ rfl HT9.out.res.heap HU.out rfl (info41 HT9.out.res.len)) rfl ?_
      exact ⟨by rw [HE.out, HDX.out]; first | done | rfl, HT9.out.below⟩
    · have hzb := bF hz
      have hE : d.fault (m : Int) = 0 := fault_ok hi (by simpa using hz)
      have HDX : Hid (d.clr (m : Int) = d.wiped) := Lib.hid (by unfold Dk.clr; rw [if_pos hE])
      have HE := Lib.hid hE
      have HLL : Hid (d.wiped.keys.length = 16) := Lib.hid rfl
      clear hE hi hu hl hz
      go_enter Try.func38, Try.ntmps38
      go_wp2_with (fail)
      refine (C0 _).mono ?_
      rintro e w1 ⟨rfl, hw1⟩
      have T1 : Two w w1 w.heap.size (w.heap.size + 1) d Dk.new := by rw [hw1]; exact T0
      have HT1 := Lib.hid T1
      have c1 : w1.cell? ⟨w.heap.size, m, none⟩ = some (.int .u64 (d.key m)) := T1.box.keyCell hm
      clear hw1 T0 T1 C0
      have HT := HT1
      go_wp2_with (first | (refine wpList_load_row rfl 46 _ rfl _ rfl 46 _ (0, 0) _ HT.out.box.heap HU.out rfl (info41 HT.out.box.len) ?_))
      refine (N0.out _).mono ?_
      rintro e w2 ⟨rfl, hb2⟩
      have HT' := Lib.hid (HT.out.kept hb2)
      clear hb2 c1 HT HT1
      have HT := HT'
      clear HT'
      go_wp2_with (first | (refine wpList_store_row rfl 46 _ _ rfl _ (d.wiped).cells rfl rfl 46 _ HT.out.res.heap (info41 HLL.out) (by rw [cells_size HLL.out, cells_size HT.out.res.len]) (one41 _) ?_))
      have T9 := HT.out.onRes (Only.setRow (d.wiped).cells) (HT.out.res.setRow (d.wiped) rfl)
      generalize World.setRow _ _ _ = w9 at *
      have HT9 := Lib.hid T9
      clear T9
      go_wp2_with (fail)
      try simp only [Exit.inBlock, Exit.then]
      refine bodyPost_ret (results_tc rfl _ _ _ 46 _ (0, 0) _ rfl HT9.out.res.heap HU.out rfl (info41 HT9.out.res.len)) rfl ?_
      exact ⟨by rw [HE.out, HDX.out]; first | done | rfl, HT9.out.below⟩
  · rw [decide_eq_false hi] at C0
    have hE : d.fault n = 2 := fault_out hi
    have HDX : Hid (d.clr n = d) := Lib.hid (by unfold Dk.clr; rw [if_neg (by rw [hE]; decide)])
    have HE := Lib.hid hE
    clear hE hi hu hl
    go_enter Try.func38, Try.ntmps38
    go_wp2_with (fail)
    refine (C0 _).mono ?_
    rintro e w1 ⟨rfl, hw1⟩
    have T1 : Two w w1 w.heap.size (w.heap.size + 1) d Dk.new := by rw [hw1]; exact T0
    have HT1 := Lib.hid T1
    clear hw1 T0 T1 C0
    go_wp2_with (fail)
    have HT := HT1
    refine wp_region_still_tail 2 (by kernel_rfl) (by kernel_rfl) ?_
    simp only [List.take_succ_cons, List.take_zero, List.drop_succ_cons, List.drop_zero]
    refine wpStill_load_row rfl 46 _ rfl _ rfl 46 _ (0, 0) _ (HT.out).box.heap HU.out rfl (info41 (HT.out).box.len) ?_
    still_step
    refine wpStill_nil ?_
    change wpList _ _ _ _ _ (World.drew _)
    refine wpList_store_row rfl 46 _ _ rfl _ _ rfl rfl 46 _ (HT.out).drew_.res.heap (info41 (HT.out).box.len) (by rw [cells_size (HT.out).box.len, cells_size (HT.out).res.len]) (one41 _) ?_
    have T9 := HT.out.drew_.onRes (Only.setRow d.cells) (HT.out.drew_.res.setRow d HT.out.box.len)
    generalize World.setRow _ _ _ = w9 at *
    have HT9 := Lib.hid T9
    clear T9
    go_wp2_with (fail)
    try simp only [Exit.inBlock, Exit.then]
    refine bodyPost_ret (results_tc rfl _ _ _ 46 _ (0, 0) _ rfl HT9.out.res.heap HU.out rfl (info41 HT9.out.res.len)) rfl ?_
    exact ⟨by rw [HE.out, HDX.out]; first | done | rfl, HT9.out.below⟩
end Go.Proofs.Ytjpdjhmajjbgmaa.Res
