/- The document's functions, walked: Register, Reserve, Release, Clear. -/
import Derived.Test.YtjpdjhmajjbgmaaRef0
namespace Go.Proofs.Ytjpdjhmajjbgmaa.Res
open Go.RowKit
set_option linter.unusedVariables false
theorem reg_len (d : Dk) (n k : Int) (keep : Bool) (hl : d.keys.length = 16) : (d.reg n k keep).keys.length = 16 := by
  unfold Dk.reg; split <;> simp [hl]
set_option maxRecDepth 100000 in
set_option maxHeartbeats 4000000 in
theorem rRegister_any (d : Dk) (n k : Int) (keep : Bool) (w : World) (hl : d.keys.length = 16) :
    Calls Try.prog 35 #[.agg d.cells, .int .i64 n, .int .u64 k, .bool keep] w fun e w' => e = .returned (.tuple #[.int .i64 (d.regE n), .agg (d.reg n k keep).cells]) ∧ Below w.heap.size w w' := by
  obtain ⟨fs, hu⟩ := u41
  have HU := Lib.hid hu
  have C0 := fun W => rin_any n W
  have T0 := two_start w d hl
  by_cases hi : isIn n
  · rw [decide_eq_true hi] at C0
    obtain ⟨m, rfl⟩ := Int.eq_ofNat_of_zero_le hi.1
    have hm : m < 16 := by have := hi.2; omega
    have hE : d.regE (m : Int) = 0 := by unfold Dk.regE; rw [if_pos hi]
    have hD : d.reg (m : Int) k keep = ⟨d.keys.set m k, d.holder, if k = 0 ∧ d.holder = (m : Int) then 0 else d.kind, keep⟩ := by unfold Dk.reg; rw [if_pos hi]; rfl
    have HE := Lib.hid hE
    have HDD := Lib.hid hD
    clear hE hD hi hu
    go_enter Try.func35, Try.ntmps35
    go_wp2_with (fail)
    refine (C0 _).mono ?_
    rintro e w1 ⟨rfl, hw1⟩
    have T1 : Two w w1 w.heap.size (w.heap.size + 1) d Dk.new := by rw [hw1]; exact T0
    have c1 := T1.box.keyCell hm
    have f1 := T1.box.frozen m
    have h2 := T1.box.setKey hm k
    have c2 := h2.keepCell
    have f2 := h2.frozen 18
    have T2 := (T1.onBox (Only.set (p := ⟨w.heap.size, m, none⟩) _) h2).onBox (Only.set (p := ⟨w.heap.size, 18, none⟩) _) (h2.setKeep keep)
    have HT2 := Lib.hid T2
    clear hw1 T0 T1 C0 h2 T2
    go_upto_region 5 with (fail)
    generalize (w1.setCell ⟨w.heap.size, m, none⟩ (.int .u64 k)).setCell ⟨w.heap.size, 18, none⟩ (.bool keep) = w2 at *
    clear c1 f1 c2 f2
    have c3 : w2.cell? ⟨w.heap.size, 17, none⟩ = some (.int .i64 d.kind) := HT2.out.box.kindCell
    have c4 : w2.cell? ⟨w.heap.size, 16, none⟩ = some (.int .i64 d.holder) := HT2.out.box.holderCell
    have f3 := HT2.out.box.frozen 17
    by_cases hk : k = 0
    · have hkb := bT hk
      by_cases hz : d.kind = 0
      · have hzb := nF hz
        have HDX : Hid (d.reg (m : Int) k keep = ⟨d.keys.set m k, d.holder, d.kind, keep⟩) := Lib.hid (by rw [HDD.out]; congr 1; rw [hz, ite_self])
        have HT := HT2
        clear hk hz
        go_wp2_with (fail)
        refine wp_region_still_tail 2 (by kernel_rfl) (by kernel_rfl) ?_
        simp only [List.take_succ_cons, List.take_zero, List.drop_succ_cons, List.drop_zero]
        refine wpStill_load_row rfl 46 _ rfl _ rfl 46 _ (0, 0) _ (HT.out).box.heap HU.out rfl (info41 (HT.out).box.len) ?_
        still_step
        refine wpStill_nil ?_
        change wpList _ _ _ _ _ (World.drew _)
        refine wpList_store_row rfl 46 _ _ rfl _ _ rfl rfl 46 _ (HT.out).drew_.res.heap (info41 (HT.out).box.len) (by rw [cells_size (HT.out).box.len, cells_size (HT.out).res.len]) (one41 _) ?_
        have T9 := HT.out.drew_.onRes (Only.setRow (Dk.mk (d.keys.set m k) d.holder d.kind keep).cells) (HT.out.drew_.res.setRow (Dk.mk (d.keys.set m k) d.holder d.kind keep) HT.out.box.len)
        generalize World.setRow _ _ _ = w9 at *
        have HT9 := Lib.hid T9
        clear T9
        go_wp2_with (fail)
        try simp only [Exit.inBlock, Exit.then]
        refine bodyPost_ret (results_tc rfl _ _ _ 46 _ (0, 0) _ rfl HT9.out.res.heap HU.out rfl (info41 HT9.out.res.len)) rfl ?_
        exact ⟨by rw [HE.out, HDX.out]; first | done | rfl, HT9.out.below⟩
      · have hzb := nT hz
        by_cases hh : d.holder = (m : Int)
        · have hhb := bT hh
          have HDX : Hid (d.reg (m : Int) k keep = ⟨d.keys.set m k, d.holder, 0, keep⟩) := Lib.hid (by rw [HDD.out, if_pos ⟨hk, hh⟩])
          have HT := Lib.hid (HT2.out.onBox (Only.set (p := ⟨w.heap.size, 17, none⟩) _) (HT2.out.box.setKind 0))
          clear hk hz hh
          go_wp2_with (fail)
          refine wp_region_still_tail 2 (by kernel_rfl) (by kernel_rfl) ?_
          simp only [List.take_succ_cons, List.take_zero, List.drop_succ_cons, List.drop_zero]
          refine wpStill_load_row rfl 46 _ rfl _ rfl 46 _ (0, 0) _ (HT.out).box.heap HU.out rfl (info41 (HT.out).box.len) ?_
          still_step
          refine wpStill_nil ?_
          change wpList _ _ _ _ _ (World.drew _)
          refine wpList_store_row rfl 46 _ _ rfl _ _ rfl rfl 46 _ (HT.out).drew_.res.heap (info41 (HT.out).box.len) (by rw [cells_size (HT.out).box.len, cells_size (HT.out).res.len]) (one41 _) ?_
          have T9 := HT.out.drew_.onRes (Only.setRow (Dk.mk (d.keys.set m k) d.holder 0 keep).cells) (HT.out.drew_.res.setRow (Dk.mk (d.keys.set m k) d.holder 0 keep) HT.out.box.len)
          generalize World.setRow _ _ _ = w9 at *
          have HT9 := Lib.hid T9
          clear T9
          go_wp2_with (fail)
          try simp only [Exit.inBlock, Exit.then]
          refine bodyPost_ret (results_tc rfl _ _ _ 46 _ (0, 0) _ rfl HT9.out.res.heap HU.out rfl (info41 HT9.out.res.len)) rfl ?_
          exact ⟨by rw [HE.out, HDX.out]; first | done | rfl, HT9.out.below⟩
        · have hhb := bF hh
          have HDX : Hid (d.reg (m : Int) k keep = ⟨d.keys.set m k, d.holder, d.kind, keep⟩) := Lib.hid (by rw [HDD.out, if_neg (fun h => hh h.2)])
          have HT := HT2
          clear hk hz hh
          go_wp2_with (fail)
          refine wp_region_still_tail 2 (by kernel_rfl) (by kernel_rfl) ?_
          simp only [List.take_succ_cons, List.take_zero, List.drop_succ_cons, List.drop_zero]
          refine wpStill_load_row rfl 46 _ rfl _ rfl 46 _ (0, 0) _ (HT.out).box.heap HU.out rfl (info41 (HT.out).box.len) ?_
          still_step
          refine wpStill_nil ?_
          change wpList _ _ _ _ _ (World.drew _)
          refine wpList_store_row rfl 46 _ _ rfl _ _ rfl rfl 46 _ (HT.out).drew_.res.heap (info41 (HT.out).box.len) (by rw [cells_size (HT.out).box.len, cells_size (HT.out).res.len]) (one41 _) ?_
          have T9 := HT.out.drew_.onRes (Only.setRow (Dk.mk (d.keys.set m k) d.holder d.kind keep).cells) (HT.out.drew_.res.setRow (Dk.mk (d.keys.set m k) d.holder d.kind keep) HT.out.box.len)
          generalize World.setRow _ _ _ = w9 at *
          have HT9 := Lib.hid T9
          clear T9
          go_wp2_with (fail)
          try simp only [Exit.inBlock, Exit.then]
          refine bodyPost_ret (results_tc rfl _ _ _ 46 _ (0, 0) _ rfl HT9.out.res.heap HU.out rfl (info41 HT9.out.res.len)) rfl ?_
          exact ⟨by rw [HE.out, HDX.out]; first | done | rfl, HT9.out.below⟩
    · have hkb := bF hk
      have HDX : Hid (d.reg (m : Int) k keep = ⟨d.keys.set m k, d.holder, d.kind, keep⟩) := Lib.hid (by rw [HDD.out, if_neg (fun h => hk h.1)])
      have HT := HT2
      clear hk
      go_wp2_with (fail)
      refine wp_region_still_tail 2 (by kernel_rfl) (by kernel_rfl) ?_
      simp only [List.take_succ_cons, List.take_zero, List.drop_succ_cons, List.drop_zero]
      refine wpStill_load_row rfl 46 _ rfl _ rfl 46 _ (0, 0) _ (HT.out).box.heap HU.out rfl (info41 (HT.out).box.len) ?_
      still_step
      refine wpStill_nil ?_
      change wpList _ _ _ _ _ (World.drew _)
      refine wpList_store_row rfl 46 _ _ rfl _ _ rfl rfl 46 _ (HT.out).drew_.res.heap (info41 (HT.out).box.len) (by rw [cells_size (HT.out).box.len, cells_size (HT.out).res.len]) (one41 _) ?_
      have T9 := HT.out.drew_.onRes (Only.setRow (Dk.mk (d.keys.set m k) d.holder d.kind keep).cells) (HT.out.drew_.res.setRow (Dk.mk (d.keys.set m k) d.holder d.kind keep) HT.out.box.len)
      generalize World.setRow _ _ _ = w9 at *
      have HT9 := Lib.hid T9
      clear T9
      go_wp2_with (fail)
      try simp only [Exit.inBlock, Exit.then]
      refine bodyPost_ret (results_tc rfl _ _ _ 46 _ (0, 0) _ rfl HT9.out.res.heap HU.out rfl (info41 HT9.out.res.len)) rfl ?_
      exact ⟨by rw [HE.out, HDX.out]; first | done | rfl, HT9.out.below⟩
  · rw [decide_eq_false hi] at C0
    have hE : d.regE n = 2 := by unfold Dk.regE; rw [if_neg hi]
    have hD : d.reg n k keep = d := by unfold Dk.reg; rw [if_neg hi]
    have HE := Lib.hid hE
    have HDX := Lib.hid hD
    clear hE hD hi hu hl
    go_enter Try.func35, Try.ntmps35
    go_wp2_with (fail)
    refine (C0 _).mono ?_
    rintro e w1 ⟨rfl, hw1⟩
    have T1 : Two w w1 w.heap.size (w.heap.size + 1) d Dk.new := by rw [hw1]; exact T0
    have HT := Lib.hid T1
    clear hw1 T0 T1 C0
    go_wp2_with (fail)
    refine wp_region_still_tail 2 (by kernel_rfl) (by kernel_rfl) ?_
    simp only [List.take_succ_cons, List.take_zero, List.drop_succ_cons, List.drop_zero]
    refine wpStill_load_row rfl 46 _ rfl _ rfl 46 _ (0, 0) _ (HT.out).box.heap HU.out rfl (info41 (HT.out).box.len) ?_
    still_step
    refine wpStill_nil ?_
    change wpList _ _ _ _ _ (World.drew _)
    refine wpList_store_row rfl 46 _ _ rfl _ _ rfl rfl 46 _ (HT.out).drew_.res.heap (info41 (HT.out).box.len) (by rw [cells_size (HT.out).box.len, cells_size (HT.out).res.len]) (one41 _) ?_
    have T9 := HT.out.drew_.onRes (Only.setRow d.cells) (HT.out.drew_.res.setRow d HT.out.box.len)
    generalize World.setRow _ _ _ = w9 at *
    have HT9 := Lib.hid T9
    clear T9
    go_wp2_with (fail)
    try simp only [Exit.inBlock, Exit.then]
    refine bodyPost_ret (results_tc rfl _ _ _ 46 _ (0, 0) _ rfl HT9.out.res.heap HU.out rfl (info41 HT9.out.res.len)) rfl ?_
    exact ⟨by rw [HE.out, HDX.out]; first | done | rfl, HT9.out.below⟩
theorem resE_out {d : Dk} {n k : Int} (h : ¬ isIn n ∨ k < 1 ∨ 4 < k) : d.resE n k = 2 := by unfold Dk.resE; rw [if_pos h]
theorem resE_none {d : Dk} {n k : Int} (h : ¬ (¬ isIn n ∨ k < 1 ∨ 4 < k)) (hz : d.key n.toNat = 0) : d.resE n k = 10 := by unfold Dk.resE; rw [if_neg h, if_pos hz]
theorem resE_held {d : Dk} {n k : Int} (h : ¬ (¬ isIn n ∨ k < 1 ∨ 4 < k)) (hz : ¬ d.key n.toNat = 0) (h1 : d.kind ≠ 0 ∧ (d.holder ≠ n ∨ d.kind ≠ k)) : d.resE n k = 12 := by unfold Dk.resE; rw [if_neg h, if_neg hz, if_pos h1]
theorem resE_ok {d : Dk} {n k : Int} (h : ¬ (¬ isIn n ∨ k < 1 ∨ 4 < k)) (hz : ¬ d.key n.toNat = 0) (h1 : ¬ (d.kind ≠ 0 ∧ (d.holder ≠ n ∨ d.kind ≠ k))) : d.resE n k = 0 := by unfold Dk.resE; rw [if_neg h, if_neg hz, if_neg h1]
theorem res_no {d : Dk} {n k : Int} (h : ¬ d.resE n k = 0) : d.res n k = d := by unfold Dk.res; rw [if_neg h]
theorem res_yes {d : Dk} {n k : Int} (h : d.resE n k = 0) : d.res n k = Dk.mk d.keys n k d.keep := by unfold Dk.res; rw [if_pos h]
set_option maxRecDepth 100000 in
set_option maxHeartbeats 4000000 in
theorem rReserve_any (d : Dk) (n k : Int) (w : World) (hl : d.keys.length = 16) :
    Calls Try.prog 36 #[.agg d.cells, .int .i64 n, .int .i64 k] w fun e w' => e = .returned (.tuple #[.int .i64 (d.resE n k), .agg (d.res n k).cells]) ∧ Below w.heap.size w w' := by
  obtain ⟨fs, hu⟩ := u41
  have HU := Lib.hid hu
  have C0 := fun W => rin_any n W
  have T0 := two_start w d hl
  by_cases hi : isIn n
  · rw [decide_eq_true hi] at C0
    obtain ⟨m, rfl⟩ := Int.eq_ofNat_of_zero_le hi.1
    have hm : m < 16 := by have := hi.2; omega
    by_cases hk1 : k < 1
    · have hE : d.resE (m : Int) k = 2 := resE_out (.inr (.inl hk1))
      have HDX := Lib.hid (res_no (d := d) (n := (m : Int)) (k := k) (by rw [hE]; decide))
      have HE := Lib.hid hE
      clear hE hi hu hl
      go_enter Try.func36, Try.ntmps36
      go_wp2_with (fail)
      refine (C0 _).mono ?_
      rintro e w1 ⟨rfl, hw1⟩
      have T1 : Two w w1 w.heap.size (w.heap.size + 1) d Dk.new := by rw [hw1]; exact T0
      have HT1 := Lib.hid T1
      clear hw1 T0 T1 C0
      go_wp2_with (fail)
      have HT := HT1
      refine wp_region_still_tail 2 (by kernel_rfl) (by kernel_rfl) ?_
      simp only [List.take_succ_cons, List.take_zero, List.drop_succ_cons, List.drop_zero]
      refine wpStill_load_row rfl 46 _ rfl _ rfl 46 _ (0, 0) _ (HT.out).box.heap HU.out rfl (info41 (HT.out).box.len) ?_
      still_step
      refine wpStill_nil ?_
      change wpList _ _ _ _ _ (World.drew _)
      refine wpList_store_row rfl 46 _ _ rfl _ _ rfl rfl 46 _ (HT.out).drew_.res.heap (info41 (HT.out).box.len) (by rw [cells_size (HT.out).box.len, cells_size (HT.out).res.len]) (one41 _) ?_
      have T9 := HT.out.drew_.onRes (Only.setRow d.cells) (HT.out.drew_.res.setRow d HT.out.box.len)
      generalize World.setRow _ _ _ = w9 at *
      have HT9 := Lib.hid T9
      clear T9
      go_wp2_with (fail)
      try simp only [Exit.inBlock, Exit.then]
      refine bodyPost_ret (results_tc rfl _ _ _ 46 _ (0, 0) _ rfl HT9.out.res.heap HU.out rfl (info41 HT9.out.res.len)) rfl ?_
      exact ⟨by rw [HE.out, HDX.out]; first | done | rfl, HT9.out.below⟩
    · by_cases hk4 : 4 < k
      · have hE : d.resE (m : Int) k = 2 := resE_out (.inr (.inr hk4))
        have HDX := Lib.hid (res_no (d := d) (n := (m : Int)) (k := k) (by rw [hE]; decide))
        have HE := Lib.hid hE
        clear hE hi hu hl
        go_enter Try.func36, Try.ntmps36
        go_wp2_with (fail)
        refine (C0 _).mono ?_
        rintro e w1 ⟨rfl, hw1⟩
        have T1 : Two w w1 w.heap.size (w.heap.size + 1) d Dk.new := by rw [hw1]; exact T0
        have HT1 := Lib.hid T1
        clear hw1 T0 T1 C0
        go_wp2_with (fail)
        have HT := HT1
        refine wp_region_still_tail 2 (by kernel_rfl) (by kernel_rfl) ?_
        simp only [List.take_succ_cons, List.take_zero, List.drop_succ_cons, List.drop_zero]
        refine wpStill_load_row rfl 46 _ rfl _ rfl 46 _ (0, 0) _ (HT.out).box.heap HU.out rfl (info41 (HT.out).box.len) ?_
        still_step
        refine wpStill_nil ?_
        change wpList _ _ _ _ _ (World.drew _)
        refine wpList_store_row rfl 46 _ _ rfl _ _ rfl rfl 46 _ (HT.out).drew_.res.heap (info41 (HT.out).box.len) (by rw [cells_size (HT.out).box.len, cells_size (HT.out).res.len]) (one41 _) ?_
        have T9 := HT.out.drew_.onRes (Only.setRow d.cells) (HT.out.drew_.res.setRow d HT.out.box.len)
        generalize World.setRow _ _ _ = w9 at *
        have HT9 := Lib.hid T9
        clear T9
        go_wp2_with (fail)
        try simp only [Exit.inBlock, Exit.then]
        refine bodyPost_ret (results_tc rfl _ _ _ 46 _ (0, 0) _ rfl HT9.out.res.heap HU.out rfl (info41 HT9.out.res.len)) rfl ?_
        exact ⟨by rw [HE.out, HDX.out]; first | done | rfl, HT9.out.below⟩
      · have hok : ¬ (¬ isIn (m : Int) ∨ k < 1 ∨ 4 < k) := by rintro (h | h | h); exact h hi; exact hk1 h; exact hk4 h
        by_cases hz : d.key m = 0
        · have hzb := bT hz
          have hE : d.resE (m : Int) k = 10 := resE_none hok (by simpa using hz)
          have HDX := Lib.hid (res_no (d := d) (n := (m : Int)) (k := k) (by rw [hE]; decide))
          have HE := Lib.hid hE
          clear hE hi hu hl hz hok
          go_enter Try.func36, Try.ntmps36
          go_wp2_with (fail)
          refine (C0 _).mono ?_
          rintro e w1 ⟨rfl, hw1⟩
          have T1 : Two w w1 w.heap.size (w.heap.size + 1) d Dk.new := by rw [hw1]; exact T0
          have HT1 := Lib.hid T1
          have c1 : w1.cell? ⟨w.heap.size, m, none⟩ = some (.int .u64 (d.key m)) := T1.box.keyCell hm
          have c3 : w1.cell? ⟨w.heap.size, 17, none⟩ = some (.int .i64 d.kind) := T1.box.kindCell
          have c4 : w1.cell? ⟨w.heap.size, 16, none⟩ = some (.int .i64 d.holder) := T1.box.holderCell
          have f3 := T1.box.frozen 17
          have f4 := T1.box.frozen 16
          clear hw1 T0 T1 C0
          go_wp2_with (fail)
          have HT := HT1
          refine wp_region_still_tail 2 (by kernel_rfl) (by kernel_rfl) ?_
          simp only [List.take_succ_cons, List.take_zero, List.drop_succ_cons, List.drop_zero]
          refine wpStill_load_row rfl 46 _ rfl _ rfl 46 _ (0, 0) _ (HT.out).box.heap HU.out rfl (info41 (HT.out).box.len) ?_
          still_step
          refine wpStill_nil ?_
          change wpList _ _ _ _ _ (World.drew _)
          refine wpList_store_row rfl 46 _ _ rfl _ _ rfl rfl 46 _ (HT.out).drew_.res.heap (info41 (HT.out).box.len) (by rw [cells_size (HT.out).box.len, cells_size (HT.out).res.len]) (one41 _) ?_
          have T9 := HT.out.drew_.onRes (Only.setRow d.cells) (HT.out.drew_.res.setRow d HT.out.box.len)
          generalize World.setRow _ _ _ = w9 at *
          have HT9 := Lib.hid T9
          clear T9
          go_wp2_with (fail)
          try simp only [Exit.inBlock, Exit.then]
          refine bodyPost_ret (results_tc rfl _ _ _ 46 _ (0, 0) _ rfl HT9.out.res.heap HU.out rfl (info41 HT9.out.res.len)) rfl ?_
          exact ⟨by rw [HE.out, HDX.out]; first | done | rfl, HT9.out.below⟩
        · have hzb := bF hz
          by_cases hd : d.kind = 0
          · have hdb := nF hd
            have hE : d.resE (m : Int) k = 0 := resE_ok hok (by simpa using hz) (fun h => h.1 hd)
            have HDX := Lib.hid (res_yes hE)
            have HE := Lib.hid hE
            clear hE hi hu hl hz hok hd
            go_enter Try.func36, Try.ntmps36
            go_wp2_with (fail)
            refine (C0 _).mono ?_
            rintro e w1 ⟨rfl, hw1⟩
            have T1 : Two w w1 w.heap.size (w.heap.size + 1) d Dk.new := by rw [hw1]; exact T0
            have HT1 := Lib.hid T1
            have c1 : w1.cell? ⟨w.heap.size, m, none⟩ = some (.int .u64 (d.key m)) := T1.box.keyCell hm
            have c3 : w1.cell? ⟨w.heap.size, 17, none⟩ = some (.int .i64 d.kind) := T1.box.kindCell
            have c4 : w1.cell? ⟨w.heap.size, 16, none⟩ = some (.int .i64 d.holder) := T1.box.holderCell
            have f3 := T1.box.frozen 17
            have f4 := T1.box.frozen 16
            clear hw1 T0 T1 C0
            go_wp2_with (fail)
            have HT := Lib.hid ((HT1.out.onBox (Only.set (p := ⟨w.heap.size, 16, none⟩) _) (HT1.out.box.setHolder (m : Int))).onBox (Only.set (p := ⟨w.heap.size, 17, none⟩) _) ((HT1.out.box.setHolder (m : Int)).setKind k))
            refine wp_region_still_tail 2 (by kernel_rfl) (by kernel_rfl) ?_
            simp only [List.take_succ_cons, List.take_zero, List.drop_succ_cons, List.drop_zero]
            refine wpStill_load_row rfl 46 _ rfl _ rfl 46 _ (0, 0) _ (HT.out).box.heap HU.out rfl (info41 (HT.out).box.len) ?_
            still_step
            refine wpStill_nil ?_
            change wpList _ _ _ _ _ (World.drew _)
            refine wpList_store_row rfl 46 _ _ rfl _ _ rfl rfl 46 _ (HT.out).drew_.res.heap (info41 (HT.out).box.len) (by rw [cells_size (HT.out).box.len, cells_size (HT.out).res.len]) (one41 _) ?_
            have T9 := HT.out.drew_.onRes (Only.setRow (Dk.mk d.keys (m : Int) k d.keep).cells) (HT.out.drew_.res.setRow (Dk.mk d.keys (m : Int) k d.keep) HT.out.box.len)
            generalize World.setRow _ _ _ = w9 at *
            have HT9 := Lib.hid T9
            clear T9
            go_wp2_with (fail)
            try simp only [Exit.inBlock, Exit.then]
            refine bodyPost_ret (results_tc rfl _ _ _ 46 _ (0, 0) _ rfl HT9.out.res.heap HU.out rfl (info41 HT9.out.res.len)) rfl ?_
            exact ⟨by rw [HE.out, HDX.out]; first | done | rfl, HT9.out.below⟩
          · have hdb := nT hd
            by_cases hh : d.holder = (m : Int)
            · have hhb := bT hh
              by_cases hkk : d.kind = k
              · have hkb := bT hkk
                have hE : d.resE (m : Int) k = 0 := resE_ok hok (by simpa using hz) (fun h => h.2.elim (fun c => c hh) (fun c => c hkk))
                have HDX := Lib.hid (res_yes hE)
                have HE := Lib.hid hE
                clear hE hi hu hl hz hok hd hh hkk
                go_enter Try.func36, Try.ntmps36
                go_wp2_with (fail)
                refine (C0 _).mono ?_
                rintro e w1 ⟨rfl, hw1⟩
                have T1 : Two w w1 w.heap.size (w.heap.size + 1) d Dk.new := by rw [hw1]; exact T0
                have HT1 := Lib.hid T1
                have c1 : w1.cell? ⟨w.heap.size, m, none⟩ = some (.int .u64 (d.key m)) := T1.box.keyCell hm
                have c3 : w1.cell? ⟨w.heap.size, 17, none⟩ = some (.int .i64 d.kind) := T1.box.kindCell
                have c4 : w1.cell? ⟨w.heap.size, 16, none⟩ = some (.int .i64 d.holder) := T1.box.holderCell
                have f3 := T1.box.frozen 17
                have f4 := T1.box.frozen 16
                clear hw1 T0 T1 C0
                go_wp2_with (fail)
                have HT := Lib.hid ((HT1.out.onBox (Only.set (p := ⟨w.heap.size, 16, none⟩) _) (HT1.out.box.setHolder (m : Int))).onBox (Only.set (p := ⟨w.heap.size, 17, none⟩) _) ((HT1.out.box.setHolder (m : Int)).setKind k))
                refine wp_region_still_tail 2 (by kernel_rfl) (by kernel_rfl) ?_
                simp only [List.take_succ_cons, List.take_zero, List.drop_succ_cons, List.drop_zero]
                refine wpStill_load_row rfl 46 _ rfl _ rfl 46 _ (0, 0) _ (HT.out).box.heap HU.out rfl (info41 (HT.out).box.len) ?_
                still_step
                refine wpStill_nil ?_
                change wpList _ _ _ _ _ (World.drew _)
                refine wpList_store_row rfl 46 _ _ rfl _ _ rfl rfl 46 _ (HT.out).drew_.res.heap (info41 (HT.out).box.len) (by rw [cells_size (HT.out).box.len, cells_size (HT.out).res.len]) (one41 _) ?_
                have T9 := HT.out.drew_.onRes (Only.setRow (Dk.mk d.keys (m : Int) k d.keep).cells) (HT.out.drew_.res.setRow (Dk.mk d.keys (m : Int) k d.keep) HT.out.box.len)
                generalize World.setRow _ _ _ = w9 at *
                have HT9 := Lib.hid T9
                clear T9
                go_wp2_with (fail)
                try simp only [Exit.inBlock, Exit.then]
                refine bodyPost_ret (results_tc rfl _ _ _ 46 _ (0, 0) _ rfl HT9.out.res.heap HU.out rfl (info41 HT9.out.res.len)) rfl ?_
                exact ⟨by rw [HE.out, HDX.out]; first | done | rfl, HT9.out.below⟩
              · have hkb := bF hkk
                have hE : d.resE (m : Int) k = 12 := resE_held hok (by simpa using hz) ⟨hd, .inr hkk⟩
                have HDX := Lib.hid (res_no (d := d) (n := (m : Int)) (k := k) (by rw [hE]; decide))
                have HE := Lib.hid hE
                clear hE hi hu hl hz hok hd hh hkk
                go_enter Try.func36, Try.ntmps36
                go_wp2_with (fail)
                refine (C0 _).mono ?_
                rintro e w1 ⟨rfl, hw1⟩
                have T1 : Two w w1 w.heap.size (w.heap.size + 1) d Dk.new := by rw [hw1]; exact T0
                have HT1 := Lib.hid T1
                have c1 : w1.cell? ⟨w.heap.size, m, none⟩ = some (.int .u64 (d.key m)) := T1.box.keyCell hm
                have c3 : w1.cell? ⟨w.heap.size, 17, none⟩ = some (.int .i64 d.kind) := T1.box.kindCell
                have c4 : w1.cell? ⟨w.heap.size, 16, none⟩ = some (.int .i64 d.holder) := T1.box.holderCell
                have f3 := T1.box.frozen 17
                have f4 := T1.box.frozen 16
                clear hw1 T0 T1 C0
                go_wp2_with (fail)
                have HT := HT1
                refine wp_region_still_tail 2 (by kernel_rfl) (by kernel_rfl) ?_
                simp only [List.take_succ_cons, List.take_zero, List.drop_succ_cons, List.drop_zero]
                refine wpStill_load_row rfl 46 _ rfl _ rfl 46 _ (0, 0) _ (HT.out).box.heap HU.out rfl (info41 (HT.out).box.len) ?_
                still_step
                refine wpStill_nil ?_
                change wpList _ _ _ _ _ (World.drew _)
                refine wpList_store_row rfl 46 _ _ rfl _ _ rfl rfl 46 _ (HT.out).drew_.res.heap (info41 (HT.out).box.len) (by rw [cells_size (HT.out).box.len, cells_size (HT.out).res.len]) (one41 _) ?_
                have T9 := HT.out.drew_.onRes (Only.setRow d.cells) (HT.out.drew_.res.setRow d HT.out.box.len)
                generalize World.setRow _ _ _ = w9 at *
                have HT9 := Lib.hid T9
                clear T9
                go_wp2_with (fail)
                try simp only [Exit.inBlock, Exit.then]
                refine bodyPost_ret (results_tc rfl _ _ _ 46 _ (0, 0) _ rfl HT9.out.res.heap HU.out rfl (info41 HT9.out.res.len)) rfl ?_
                exact ⟨by rw [HE.out, HDX.out]; first | done | rfl, HT9.out.below⟩
            · have hhb := bF hh
              have hE : d.resE (m : Int) k = 12 := resE_held hok (by simpa using hz) ⟨hd, .inl hh⟩
              have HDX := Lib.hid (res_no (d := d) (n := (m : Int)) (k := k) (by rw [hE]; decide))
              have HE := Lib.hid hE
              clear hE hi hu hl hz hok hd hh
              go_enter Try.func36, Try.ntmps36
              go_wp2_with (fail)
              refine (C0 _).mono ?_
              rintro e w1 ⟨rfl, hw1⟩
              have T1 : Two w w1 w.heap.size (w.heap.size + 1) d Dk.new := by rw [hw1]; exact T0
              have HT1 := Lib.hid T1
              have c1 : w1.cell? ⟨w.heap.size, m, none⟩ = some (.int .u64 (d.key m)) := T1.box.keyCell hm
              have c3 : w1.cell? ⟨w.heap.size, 17, none⟩ = some (.int .i64 d.kind) := T1.box.kindCell
              have c4 : w1.cell? ⟨w.heap.size, 16, none⟩ = some (.int .i64 d.holder) := T1.box.holderCell
              have f3 := T1.box.frozen 17
              have f4 := T1.box.frozen 16
              clear hw1 T0 T1 C0
              go_wp2_with (fail)
              have HT := HT1
              refine wp_region_still_tail 2 (by kernel_rfl) (by kernel_rfl) ?_
              simp only [List.take_succ_cons, List.take_zero, List.drop_succ_cons, List.drop_zero]
              refine wpStill_load_row rfl 46 _ rfl _ rfl 46 _ (0, 0) _ (HT.out).box.heap HU.out rfl (info41 (HT.out).box.len) ?_
              still_step
              refine wpStill_nil ?_
              change wpList _ _ _ _ _ (World.drew _)
              refine wpList_store_row rfl 46 _ _ rfl _ _ rfl rfl 46 _ (HT.out).drew_.res.heap (info41 (HT.out).box.len) (by rw [cells_size (HT.out).box.len, cells_size (HT.out).res.len]) (one41 _) ?_
              have T9 := HT.out.drew_.onRes (Only.setRow d.cells) (HT.out.drew_.res.setRow d HT.out.box.len)
              generalize World.setRow _ _ _ = w9 at *
              have HT9 := Lib.hid T9
              clear T9
              go_wp2_with (fail)
              try simp only [Exit.inBlock, Exit.then]
              refine bodyPost_ret (results_tc rfl _ _ _ 46 _ (0, 0) _ rfl HT9.out.res.heap HU.out rfl (info41 HT9.out.res.len)) rfl ?_
              exact ⟨by rw [HE.out, HDX.out]; first | done | rfl, HT9.out.below⟩
  · rw [decide_eq_false hi] at C0
    have hE : d.resE n k = 2 := resE_out (.inl hi)
    have HDX := Lib.hid (res_no (d := d) (n := n) (k := k) (by rw [hE]; decide))
    have HE := Lib.hid hE
    clear hE hi hu hl
    go_enter Try.func36, Try.ntmps36
    go_wp2_with (fail)
    refine (C0 _).mono ?_
    rintro e w1 ⟨rfl, hw1⟩
    have T1 : Two w w1 w.heap.size (w.heap.size + 1) d Dk.new := by rw [hw1]; exact T0
    have HT1 := Lib.hid T1
    clear hw1 T0 T1 C0
    go_wp2_with (fail)
    have HT := HT1
    refine wp_region_still_tail 2 (by kernel_rfl) (by kernel_rfl) ?_
    simp only [List.take_succ_cons, List.take_zero, List.drop_succ_cons, List.drop_zero]
    refine wpStill_load_row rfl 46 _ rfl _ rfl 46 _ (0, 0) _ (HT.out).box.heap HU.out rfl (info41 (HT.out).box.len) ?_
    still_step
    refine wpStill_nil ?_
    change wpList _ _ _ _ _ (World.drew _)
    refine wpList_store_row rfl 46 _ _ rfl _ _ rfl rfl 46 _ (HT.out).drew_.res.heap (info41 (HT.out).box.len) (by rw [cells_size (HT.out).box.len, cells_size (HT.out).res.len]) (one41 _) ?_
    have T9 := HT.out.drew_.onRes (Only.setRow d.cells) (HT.out.drew_.res.setRow d HT.out.box.len)
    generalize World.setRow _ _ _ = w9 at *
    have HT9 := Lib.hid T9
    clear T9
    go_wp2_with (fail)
    try simp only [Exit.inBlock, Exit.then]
    refine bodyPost_ret (results_tc rfl _ _ _ 46 _ (0, 0) _ rfl HT9.out.res.heap HU.out rfl (info41 HT9.out.res.len)) rfl ?_
    exact ⟨by rw [HE.out, HDX.out]; first | done | rfl, HT9.out.below⟩
theorem relE_eq {d : Dk} {n : Int} {f : Int} (hf : d.fault n = f) (h : ¬ f = 0) : d.relE n = f := by unfold Dk.relE; rw [hf, if_pos h]
theorem relE_held {d : Dk} {n : Int} (hf : d.fault n = 0) (h : d.kind ≠ 0 ∧ d.holder ≠ n) : d.relE n = 12 := by unfold Dk.relE; rw [hf, if_neg (by decide), if_pos h]
theorem relE_ok {d : Dk} {n : Int} (hf : d.fault n = 0) (h : ¬ (d.kind ≠ 0 ∧ d.holder ≠ n)) : d.relE n = 0 := by unfold Dk.relE; rw [hf, if_neg (by decide), if_neg h]
theorem rel_no {d : Dk} {n : Int} (h : ¬ d.relE n = 0) : d.rel n = d := by unfold Dk.rel; rw [if_neg h]
theorem rel_yes {d : Dk} {n : Int} (h : d.relE n = 0) : d.rel n = Dk.mk d.keys d.holder 0 d.keep := by unfold Dk.rel; rw [if_pos h]
set_option maxRecDepth 100000 in
set_option maxHeartbeats 4000000 in
theorem rRelease_any (d : Dk) (n : Int) (w : World) (hl : d.keys.length = 16) :
    Calls Try.prog 37 #[.agg d.cells, .int .i64 n] w fun e w' => e = .returned (.tuple #[.int .i64 (d.relE n), .agg (d.rel n).cells]) ∧ Below w.heap.size w w' := by
  obtain ⟨fs, hu⟩ := u41
  have HU := Lib.hid hu
  have C0 := fun W => rin_any n W
  have T0 := two_start w d hl
  by_cases hi : isIn n
  · rw [decide_eq_true hi] at C0
    obtain ⟨m, rfl⟩ := Int.eq_ofNat_of_zero_le hi.1
    have hm : m < 16 := by have := hi.2; omega
    by_cases hz : d.key m = 0
    · have hzb := bT hz
      have hE : d.relE (m : Int) = 10 := relE_eq (fault_none hi (by simpa using hz)) (by decide)
      have HDX := Lib.hid (rel_no (d := d) (n := (m : Int)) (by rw [hE]; decide))
      have HE := Lib.hid hE
      clear hE hi hu hl hz
      go_enter Try.func37, Try.ntmps37
      go_wp2_with (fail)
      refine (C0 _).mono ?_
      rintro e w1 ⟨rfl, hw1⟩
      have T1 : Two w w1 w.heap.size (w.heap.size + 1) d Dk.new := by rw [hw1]; exact T0
      have HT1 := Lib.hid T1
      have c1 : w1.cell? ⟨w.heap.size, m, none⟩ = some (.int .u64 (d.key m)) := T1.box.keyCell hm
      have c3 : w1.cell? ⟨w.heap.size, 17, none⟩ = some (.int .i64 d.kind) := T1.box.kindCell
      have c4 : w1.cell? ⟨w.heap.size, 16, none⟩ = some (.int .i64 d.holder) := T1.box.holderCell
      have f3 := T1.box.frozen 17
      have f4 := T1.box.frozen 16
      clear hw1 T0 T1 C0
      go_wp2_with (fail)
      have HT := HT1
      refine wp_region_still_tail 2 (by kernel_rfl) (by kernel_rfl) ?_
      simp only [List.take_succ_cons, List.take_zero, List.drop_succ_cons, List.drop_zero]
      refine wpStill_load_row rfl 46 _ rfl _ rfl 46 _ (0, 0) _ (HT.out).box.heap HU.out rfl (info41 (HT.out).box.len) ?_
      still_step
      refine wpStill_nil ?_
      change wpList _ _ _ _ _ (World.drew _)
      refine wpList_store_row rfl 46 _ _ rfl _ _ rfl rfl 46 _ (HT.out).drew_.res.heap (info41 (HT.out).box.len) (by rw [cells_size (HT.out).box.len, cells_size (HT.out).res.len]) (one41 _) ?_
      have T9 := HT.out.drew_.onRes (Only.setRow d.cells) (HT.out.drew_.res.setRow d HT.out.box.len)
      generalize World.setRow _ _ _ = w9 at *
      have HT9 := Lib.hid T9
      clear T9
      go_wp2_with (fail)
      try simp only [Exit.inBlock, Exit.then]
      refine bodyPost_ret (results_tc rfl _ _ _ 46 _ (0, 0) _ rfl HT9.out.res.heap HU.out rfl (info41 HT9.out.res.len)) rfl ?_
      exact ⟨by rw [HE.out, HDX.out]; first | done | rfl, HT9.out.below⟩
    · have hzb := bF hz
      have hf : d.fault (m : Int) = 0 := fault_ok hi (by simpa using hz)
      by_cases hd : d.kind = 0
      · have hdb := nF hd
        have hE : d.relE (m : Int) = 0 := relE_ok hf (fun h => h.1 hd)
        have HDX := Lib.hid (rel_yes hE)
        have HE := Lib.hid hE
        clear hE hi hu hl hz hd hf
        go_enter Try.func37, Try.ntmps37
        go_wp2_with (fail)
        refine (C0 _).mono ?_
        rintro e w1 ⟨rfl, hw1⟩
        have T1 : Two w w1 w.heap.size (w.heap.size + 1) d Dk.new := by rw [hw1]; exact T0
        have HT1 := Lib.hid T1
        have c1 : w1.cell? ⟨w.heap.size, m, none⟩ = some (.int .u64 (d.key m)) := T1.box.keyCell hm
        have c3 : w1.cell? ⟨w.heap.size, 17, none⟩ = some (.int .i64 d.kind) := T1.box.kindCell
        have c4 : w1.cell? ⟨w.heap.size, 16, none⟩ = some (.int .i64 d.holder) := T1.box.holderCell
        have f3 := T1.box.frozen 17
        have f4 := T1.box.frozen 16
        clear hw1 T0 T1 C0
        go_wp2_with (fail)
        have HT := Lib.hid (HT1.out.onBox (Only.set (p := ⟨w.heap.size, 17, none⟩) _) (HT1.out.box.setKind 0))
        refine wp_region_still_tail 2 (by kernel_rfl) (by kernel_rfl) ?_
        simp only [List.take_succ_cons, List.take_zero, List.drop_succ_cons, List.drop_zero]
        refine wpStill_load_row rfl 46 _ rfl _ rfl 46 _ (0, 0) _ (HT.out).box.heap HU.out rfl (info41 (HT.out).box.len) ?_
        still_step
        refine wpStill_nil ?_
        change wpList _ _ _ _ _ (World.drew _)
        refine wpList_store_row rfl 46 _ _ rfl _ _ rfl rfl 46 _ (HT.out).drew_.res.heap (info41 (HT.out).box.len) (by rw [cells_size (HT.out).box.len, cells_size (HT.out).res.len]) (one41 _) ?_
        have T9 := HT.out.drew_.onRes (Only.setRow (Dk.mk d.keys d.holder 0 d.keep).cells) (HT.out.drew_.res.setRow (Dk.mk d.keys d.holder 0 d.keep) HT.out.box.len)
        generalize World.setRow _ _ _ = w9 at *
        have HT9 := Lib.hid T9
        clear T9
        go_wp2_with (fail)
        try simp only [Exit.inBlock, Exit.then]
        refine bodyPost_ret (results_tc rfl _ _ _ 46 _ (0, 0) _ rfl HT9.out.res.heap HU.out rfl (info41 HT9.out.res.len)) rfl ?_
        exact ⟨by rw [HE.out, HDX.out]; first | done | rfl, HT9.out.below⟩
      · have hdb := nT hd
        by_cases hh : d.holder = (m : Int)
        · have hhb := nF hh
          have hE : d.relE (m : Int) = 0 := relE_ok hf (fun h => h.2 hh)
          have HDX := Lib.hid (rel_yes hE)
          have HE := Lib.hid hE
          clear hE hi hu hl hz hd hh hf
          go_enter Try.func37, Try.ntmps37
          go_wp2_with (fail)
          refine (C0 _).mono ?_
          rintro e w1 ⟨rfl, hw1⟩
          have T1 : Two w w1 w.heap.size (w.heap.size + 1) d Dk.new := by rw [hw1]; exact T0
          have HT1 := Lib.hid T1
          have c1 : w1.cell? ⟨w.heap.size, m, none⟩ = some (.int .u64 (d.key m)) := T1.box.keyCell hm
          have c3 : w1.cell? ⟨w.heap.size, 17, none⟩ = some (.int .i64 d.kind) := T1.box.kindCell
          have c4 : w1.cell? ⟨w.heap.size, 16, none⟩ = some (.int .i64 d.holder) := T1.box.holderCell
          have f3 := T1.box.frozen 17
          have f4 := T1.box.frozen 16
          clear hw1 T0 T1 C0
          go_wp2_with (fail)
          have HT := Lib.hid (HT1.out.onBox (Only.set (p := ⟨w.heap.size, 17, none⟩) _) (HT1.out.box.setKind 0))
          refine wp_region_still_tail 2 (by kernel_rfl) (by kernel_rfl) ?_
          simp only [List.take_succ_cons, List.take_zero, List.drop_succ_cons, List.drop_zero]
          refine wpStill_load_row rfl 46 _ rfl _ rfl 46 _ (0, 0) _ (HT.out).box.heap HU.out rfl (info41 (HT.out).box.len) ?_
          still_step
          refine wpStill_nil ?_
          change wpList _ _ _ _ _ (World.drew _)
          refine wpList_store_row rfl 46 _ _ rfl _ _ rfl rfl 46 _ (HT.out).drew_.res.heap (info41 (HT.out).box.len) (by rw [cells_size (HT.out).box.len, cells_size (HT.out).res.len]) (one41 _) ?_
          have T9 := HT.out.drew_.onRes (Only.setRow (Dk.mk d.keys d.holder 0 d.keep).cells) (HT.out.drew_.res.setRow (Dk.mk d.keys d.holder 0 d.keep) HT.out.box.len)
          generalize World.setRow _ _ _ = w9 at *
          have HT9 := Lib.hid T9
          clear T9
          go_wp2_with (fail)
          try simp only [Exit.inBlock, Exit.then]
          refine bodyPost_ret (results_tc rfl _ _ _ 46 _ (0, 0) _ rfl HT9.out.res.heap HU.out rfl (info41 HT9.out.res.len)) rfl ?_
          exact ⟨by rw [HE.out, HDX.out]; first | done | rfl, HT9.out.below⟩
        · have hhb := nT hh
          have hE : d.relE (m : Int) = 12 := relE_held hf ⟨hd, hh⟩
          have HDX := Lib.hid (rel_no (d := d) (n := (m : Int)) (by rw [hE]; decide))
          have HE := Lib.hid hE
          clear hE hi hu hl hz hd hh hf
          go_enter Try.func37, Try.ntmps37
          go_wp2_with (fail)
          refine (C0 _).mono ?_
          rintro e w1 ⟨rfl, hw1⟩
          have T1 : Two w w1 w.heap.size (w.heap.size + 1) d Dk.new := by rw [hw1]; exact T0
          have HT1 := Lib.hid T1
          have c1 : w1.cell? ⟨w.heap.size, m, none⟩ = some (.int .u64 (d.key m)) := T1.box.keyCell hm
          have c3 : w1.cell? ⟨w.heap.size, 17, none⟩ = some (.int .i64 d.kind) := T1.box.kindCell
          have c4 : w1.cell? ⟨w.heap.size, 16, none⟩ = some (.int .i64 d.holder) := T1.box.holderCell
          have f3 := T1.box.frozen 17
          have f4 := T1.box.frozen 16
          clear hw1 T0 T1 C0
          go_wp2_with (fail)
          have HT := HT1
          refine wp_region_still_tail 2 (by kernel_rfl) (by kernel_rfl) ?_
          simp only [List.take_succ_cons, List.take_zero, List.drop_succ_cons, List.drop_zero]
          refine wpStill_load_row rfl 46 _ rfl _ rfl 46 _ (0, 0) _ (HT.out).box.heap HU.out rfl (info41 (HT.out).box.len) ?_
          still_step
          refine wpStill_nil ?_
          change wpList _ _ _ _ _ (World.drew _)
          refine wpList_store_row rfl 46 _ _ rfl _ _ rfl rfl 46 _ (HT.out).drew_.res.heap (info41 (HT.out).box.len) (by rw [cells_size (HT.out).box.len, cells_size (HT.out).res.len]) (one41 _) ?_
          have T9 := HT.out.drew_.onRes (Only.setRow d.cells) (HT.out.drew_.res.setRow d HT.out.box.len)
          generalize World.setRow _ _ _ = w9 at *
          have HT9 := Lib.hid T9
          clear T9
          go_wp2_with (fail)
          try simp only [Exit.inBlock, Exit.then]
          refine bodyPost_ret (results_tc rfl _ _ _ 46 _ (0, 0) _ rfl HT9.out.res.heap HU.out rfl (info41 HT9.out.res.len)) rfl ?_
          exact ⟨by rw [HE.out, HDX.out]; first | done | rfl, HT9.out.below⟩
  · rw [decide_eq_false hi] at C0
    have hE : d.relE n = 2 := relE_eq (fault_out hi) (by decide)
    have HDX := Lib.hid (rel_no (d := d) (n := n) (by rw [hE]; decide))
    have HE := Lib.hid hE
    clear hE hi hu hl
    go_enter Try.func37, Try.ntmps37
    go_wp2_with (fail)
    refine (C0 _).mono ?_
    rintro e w1 ⟨rfl, hw1⟩
    have T1 : Two w w1 w.heap.size (w.heap.size + 1) d Dk.new := by rw [hw1]; exact T0
    have HT1 := Lib.hid T1
    clear hw1 T0 T1 C0
    go_wp2_with (fail)
    have HT := HT1
    refine wp_region_still_tail 2 (by kernel_rfl) (by kernel_rfl) ?_
    simp only [List.take_succ_cons, List.take_zero, List.drop_succ_cons, List.drop_zero]
    refine wpStill_load_row rfl 46 _ rfl _ rfl 46 _ (0, 0) _ (HT.out).box.heap HU.out rfl (info41 (HT.out).box.len) ?_
    still_step
    refine wpStill_nil ?_
    change wpList _ _ _ _ _ (World.drew _)
    refine wpList_store_row rfl 46 _ _ rfl _ _ rfl rfl 46 _ (HT.out).drew_.res.heap (info41 (HT.out).box.len) (by rw [cells_size (HT.out).box.len, cells_size (HT.out).res.len]) (one41 _) ?_
    have T9 := HT.out.drew_.onRes (Only.setRow d.cells) (HT.out.drew_.res.setRow d HT.out.box.len)
    generalize World.setRow _ _ _ = w9 at *
    have HT9 := Lib.hid T9
    clear T9
    go_wp2_with (fail)
    try simp only [Exit.inBlock, Exit.then]
    refine bodyPost_ret (results_tc rfl _ _ _ 46 _ (0, 0) _ rfl HT9.out.res.heap HU.out rfl (info41 HT9.out.res.len)) rfl ?_
    exact ⟨by rw [HE.out, HDX.out]; first | done | rfl, HT9.out.below⟩
end Go.Proofs.Ytjpdjhmajjbgmaa.Res
