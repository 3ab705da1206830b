/- The document's Preempt, walked. -/
import Derived.Test.YtjpdjhmajjbgmaaRef3
import Derived.Deep.LoopGhost
namespace Go.Proofs.Ytjpdjhmajjbgmaa.Res
open Go.RowKit
set_option linter.unusedVariables false
theorem struck_at (d : Dk) (n k : Int) (j : Nat) (hj : j < 16) : (d.struck n k j).getD j 0 = d.key j := by
  unfold Dk.struck
  rw [List.getD_eq_getElem?_getD, List.getElem?_map, List.getElem?_range hj]
  simp
theorem struck_self (d : Dk) (m : Nat) (k : Int) (j : Nat) (hm : m < 16) : (d.struck m k j).getD m 0 = d.key m := by
  unfold Dk.struck
  rw [List.getD_eq_getElem?_getD, List.getElem?_map, List.getElem?_range hm]
  simp
theorem held_true {d : Dk} {n k : Int} {h : Nat} (hk : d.kind ≠ 0) (hh : d.holder = h) (h16 : h < 16) (hn : ¬ d.holder = n) (hkey : d.key h = k) : d.held n k 16 = true := by
  unfold Dk.held
  rw [List.any_eq_true]
  refine ⟨h, List.mem_range.2 h16, ?_⟩
  rw [Bool.and_eq_true, Bool.and_eq_true, Bool.and_eq_true]
  exact ⟨⟨decide_eq_true (by rw [← hh]; exact hn), decide_eq_true hkey⟩, decide_eq_true hk, decide_eq_true hh⟩
theorem held_spec {d : Dk} {n k : Int} (h : d.held n k 16 = true) : d.kind ≠ 0 ∧ d.holder ≠ n ∧ ∃ i : Nat, d.holder = i ∧ d.key i = k := by
  unfold Dk.held at h
  rw [List.any_eq_true] at h
  obtain ⟨i, _, h⟩ := h
  rw [Bool.and_eq_true, Bool.and_eq_true, Bool.and_eq_true, decide_eq_true_eq, decide_eq_true_eq, decide_eq_true_eq, decide_eq_true_eq] at h
  obtain ⟨⟨h1, h2⟩, h3, h4⟩ := h
  exact ⟨h3, by rw [h4]; exact h1, i, h4, h2⟩
theorem preE_arg {d : Dk} {n k : Int} (h : ¬ isIn n ∨ k = 0) : d.preE n k = 2 := by unfold Dk.preE; rw [if_pos h]
theorem preE_none {d : Dk} {n k : Int} (h : ¬ (¬ isIn n ∨ k = 0)) (hz : d.key n.toNat = 0) : d.preE n k = 10 := by unfold Dk.preE; rw [if_neg h, if_pos hz]
theorem preE_no {d : Dk} {n k : Int} (h : ¬ (¬ isIn n ∨ k = 0)) (hz : ¬ d.key n.toNat = 0) (ho : d.others n k 16 = false) : d.preE n k = 10 := by unfold Dk.preE; rw [if_neg h, if_neg hz, ho]; rfl
theorem preE_ok {d : Dk} {n k : Int} (h : ¬ (¬ isIn n ∨ k = 0)) (hz : ¬ d.key n.toNat = 0) (ho : d.others n k 16 = true) : d.preE n k = 0 := by unfold Dk.preE; rw [if_neg h, if_neg hz, ho]; rfl
theorem pre_no {d : Dk} {n k : Int} (h : ¬ d.preE n k = 0) : d.pre n k = d := by unfold Dk.pre; rw [if_neg h]
theorem pre_yes {d : Dk} {n k : Int} (h : d.preE n k = 0) : d.pre n k = Dk.mk (d.struck n k 16) (if d.held n k 16 then n else d.holder) d.kind d.keep := by unfold Dk.pre; rw [if_pos h]
set_option maxRecDepth 100000 in
set_option maxHeartbeats 8000000 in
theorem rPreempt_any (d : Dk) (n k : Int) (w : World) (hl : d.keys.length = 16) (hinv : d.kind ≠ 0 → isIn d.holder) :
    Calls Try.prog 39 #[.agg d.cells, .int .i64 n, .int .u64 k] w fun e w' => e = .returned (.tuple #[.int .i64 (d.preE n k), .agg (d.pre n k).cells]) ∧ Below w.heap.size w w' := by
  obtain ⟨fs, hu⟩ := u41
  have HU := Lib.hid hu
  have C0 := fun W => rin_any n W
  have T0 := two_start w d hl
  by_cases hi : isIn n
  · rw [decide_eq_true hi] at C0
    obtain ⟨m, rfl⟩ := Int.eq_ofNat_of_zero_le hi.1
    have hm : m < 16 := by have := hi.2; omega
    by_cases hk : k = 0
    · have hkb := bT hk
      have hE : d.preE (m : Int) k = 2 := preE_arg (.inr hk)
      have HDX := Lib.hid (pre_no (d := d) (n := (m : Int)) (k := k) (by rw [hE]; decide))
      have HE := Lib.hid hE
      clear hE hi hu hl hk hinv
      go_enter Try.func39, Try.ntmps39
      go_wp2_with (fail)
      refine (C0 _).mono ?_
      rintro e w1 ⟨rfl, hw1⟩
      have T1 : Two w w1 w.heap.size (w.heap.size + 1) d Dk.new := by rw [hw1]; exact T0
      have HT1 := Lib.hid T1
      clear hw1 T0 T1 C0
      go_wp2_with (fail)
      have HT := HT1
      refine wp_region_still_tail 2 (by kernel_rfl) (by kernel_rfl) ?_
      simp only [List.take_succ_cons, List.take_zero, List.drop_succ_cons, List.drop_zero]
      refine wpStill_load_row rfl 46 _ rfl _ rfl 46 _ (0, 0) _ (HT.out).box.heap HU.out rfl (info41 (HT.out).box.len) ?_
      still_step
      refine wpStill_nil ?_
      change wpList _ _ _ _ _ (World.drew _)
      refine wpList_store_row rfl 46 _ _ rfl _ _ rfl rfl 46 _ (HT.out).drew_.res.heap (info41 (HT.out).box.len) (by rw [cells_size (HT.out).box.len, cells_size (HT.out).res.len]) (one41 _) ?_
      have T9 := HT.out.drew_.onRes (Only.setRow d.cells) (HT.out.drew_.res.setRow d HT.out.box.len)
      generalize World.setRow _ _ _ = w9 at *
      have HT9 := Lib.hid T9
      clear T9
      go_wp2_with (fail)
      try simp only [Exit.inBlock, Exit.then]
      refine bodyPost_ret (results_tc rfl _ _ _ 46 _ (0, 0) _ rfl HT9.out.res.heap HU.out rfl (info41 HT9.out.res.len)) rfl ?_
      exact ⟨by rw [HE.out, HDX.out]; first | done | rfl, HT9.out.below⟩
    · have hkb := bF hk
      have hok := Lib.hid (show ¬ (¬ isIn (m : Int) ∨ k = 0) from fun h => h.elim (fun h => h hi) hk)
      have HLN := Lib.hid hl
      have HINV := Lib.hid hinv
      clear hi hu hl hk hinv
      go_enter Try.func39, Try.ntmps39
      go_wp2_with (fail)
      refine (C0 _).mono ?_
      rintro e w1 ⟨rfl, hw1⟩
      have T1 : Two w w1 w.heap.size (w.heap.size + 1) d Dk.new := by rw [hw1]; exact T0
      have HT1 := Lib.hid T1
      clear hw1 T0 T1 C0
      have HB1 := Lib.hid HT1.out.box
      go_upto_region 5 with (first | (refine wpList_load_row rfl 46 _ rfl _ rfl 46 _ (0, 0) _ HB1.out.heap HU.out rfl (info41 HB1.out.len) ?_) | (refine wpList_store_row rfl 46 _ _ rfl _ d.cells rfl rfl 46 Dk.new.cells (heap_alloc_new _ _) (info41 HB1.out.len) (by rw [cells_size HB1.out.len]; rfl) (one41 _) ?_))
      generalize hw2 : World.setRow _ _ _ = w2
      have hO : Only [w1.heap.size] w1 w2 := by rw [← hw2]; exact ((Only.refl [w1.heap.size] w1).alloc_ _).trans (Only.setRow _) (fun x hx => .inl hx)
      have hOld : HasR w2 w1.heap.size d := by rw [← hw2]; exact ⟨heap_setRow (heap_alloc_new w1 _) _, HB1.out.len⟩
      have N1 : w.heap.size ≠ w1.heap.size := Nat.ne_of_lt HT1.out.box.lt
      have N2 : w.heap.size + 1 ≠ w1.heap.size := Nat.ne_of_lt HT1.out.res.lt
      have hT2 : Two w w2 w.heap.size (w.heap.size + 1) d Dk.new := ⟨HT1.out.box.kept hO (by simp; exact N1), HT1.out.res.kept hO (by simp; exact N2), HT1.out.ne, HT1.out.lo1, HT1.out.lo2, Only.below HT1.out.below hO (Nat.le_of_lt HT1.out.box.lt) (by simp; exact Nat.le_of_lt HT1.out.box.lt)⟩
      have HT2 := Lib.hid hT2
      have HO2 := Lib.hid hOld
      clear hw2 hO hOld hT2 HB1 HT1 N2
      have N13 : w.heap.size ≠ w1.heap.size := N1
      generalize hb3 : w1.heap.size = b3 at *
      generalize hb1 : w.heap.size = b1 at *
      clear hb3 N1
      have HST := Lib.hid (struck_zero d m k HLN.out)
      go_wp2_with (fail)
      go_loopg [8, 10] (16) (fun q v8 v10 wr => ∃ j c : Nat, j ≤ 16 ∧ c ≤ j ∧ v8 = .int .i64 c ∧ v10 = .int .i64 j ∧ q = 16 - j ∧ (c = 0 ↔ d.others m k j = false) ∧ Two w wr b1 (b1 + 1) ⟨d.struck m k j, d.holder, d.kind, d.keep⟩ Dk.new ∧ HasR wr b3 d)
      case atStart => exact ⟨0, 0, by omega, by omega, rfl, rfl, rfl, ⟨fun _ => rfl, fun _ => rfl⟩, by rw [HST.out]; exact HT2.out, HO2.out⟩
      case round =>
        obtain ⟨j, c, hj, hcj, rfl, rfl, hq, hc, hT, hO⟩ := hrel
        have HQ := Lib.hid hq
        have HC := Lib.hid hc
        have HT := Lib.hid hT
        have HO := Lib.hid hO
        clear hq hc hT hO
        by_cases hlt : j < 16
        · have hf := HT.out.box.frozen j
          have hcell : wr.cell? ⟨b1, j, none⟩ = some (.int .u64 (d.key j)) := by
            rw [← struck_at d m k j hlt]; exact HT.out.box.keyCell hlt
          by_cases hjn : (j : Int) = m
          · have hbn : ((j : Int) != (m : Int)) = false := by rw [bne_eq_false_iff_eq]; exact hjn
            have hh : d.hits m k j = false := by unfold Dk.hits; rw [decide_eq_false (by simpa using hjn), Bool.false_and]
            have E1 := Lib.hid (others_succ d m k j)
            have E3 := Lib.hid (struck_miss d m k j hh)
            have HH := Lib.hid hh
            clear hh hjn
            go_wp2_with (fail)
            go_roundg (16 - (j + 1))
            case measure => have := HQ.out; omega
            case rel =>
              refine ⟨j + 1, c, by omega, by omega, by go_num, by go_num, rfl, ?_, ?_, HO.out⟩
              · rw [E1.out, HH.out, Bool.or_false]; exact HC.out
              · rw [E3.out]; exact HT.out
          · by_cases hkk : d.key j = k
            · have hbn : ((j : Int) != (m : Int)) = true := by rw [bne_iff_ne]; exact hjn
              have hbk : (d.key j == k) = true := by rw [beq_iff_eq]; exact hkk
              have hh : d.hits m k j = true := by unfold Dk.hits; rw [decide_eq_true (by simpa using hjn), decide_eq_true hkk]; rfl
              have E1 := Lib.hid (others_succ d m k j)
              have E3 := Lib.hid (struck_hit d m k j hlt hh)
              have HH := Lib.hid hh
              clear hh hjn hkk
              go_wp2_with (fail)
              go_roundg (16 - (j + 1))
              case measure => have := HQ.out; omega
              case rel =>
                refine ⟨j + 1, c + 1, by omega, by omega, by go_num, by go_num, rfl, ?_, ?_, HO.out.kept (Only.set (p := ⟨b1, j, none⟩) _) (by simp; exact fun h => N13 h.symm)⟩
                · rw [E1.out, HH.out, Bool.or_true]; exact ⟨fun h => by omega, fun h => by cases h⟩
                · rw [E3.out]; exact HT.out.onBox (Only.set (p := ⟨b1, j, none⟩) _) (HT.out.box.setKey hlt 0)
            · have hbn : ((j : Int) != (m : Int)) = true := by rw [bne_iff_ne]; exact hjn
              have hbk : (d.key j == k) = false := by rw [beq_eq_false_iff_ne]; exact hkk
              have hh : d.hits m k j = false := by unfold Dk.hits; rw [decide_eq_false hkk, Bool.and_false]
              have E1 := Lib.hid (others_succ d m k j)
              have E3 := Lib.hid (struck_miss d m k j hh)
              have HH := Lib.hid hh
              clear hh hjn hkk
              go_wp2_with (fail)
              go_roundg (16 - (j + 1))
              case measure => have := HQ.out; omega
              case rel =>
                refine ⟨j + 1, c, by omega, by omega, by go_num, by go_num, rfl, ?_, ?_, HO.out⟩
                · rw [E1.out, HH.out, Bool.or_false]; exact HC.out
                · rw [E3.out]; exact HT.out
        · obtain rfl : j = 16 := by omega
          have cm : wr.cell? ⟨b1, m, none⟩ = some (.int .u64 (d.key m)) := by
            rw [← struck_self d m k 16 hm]; exact HT.out.box.keyCell hm
          by_cases hz : d.key m = 0
          · have hzb := bT hz
            have hE : d.preE (m : Int) k = 10 := preE_none hok.out (by simpa using hz)
            have HDX := Lib.hid (pre_no (d := d) (n := (m : Int)) (k := k) (by rw [hE]; decide))
            have HE := Lib.hid hE
            clear hE hz
            go_wp2_with (fail)
            refine wp_region_still_tail 2 (by kernel_rfl) (by kernel_rfl) ?_
            simp only [List.take_succ_cons, List.take_zero, List.drop_succ_cons, List.drop_zero]
            refine wpStill_load_row rfl 46 _ rfl _ rfl 46 _ (0, 0) _ (HO.out).heap HU.out rfl (info41 (HO.out).len) ?_
            still_step
            refine wpStill_nil ?_
            change wpList _ _ _ _ _ (World.drew _)
            refine wpList_store_row rfl 46 _ _ rfl _ _ rfl rfl 46 _ (HT.out).drew_.res.heap (info41 (HO.out).len) (by rw [cells_size (HO.out).len, cells_size (HT.out).res.len]) (one41 _) ?_
            have T9 := HT.out.drew_.onRes (Only.setRow d.cells) (HT.out.drew_.res.setRow d HO.out.len)
            generalize World.setRow _ _ _ = w9 at *
            have HT9 := Lib.hid T9
            clear T9
            go_wp2_with (fail)
            try simp only [Exit.inBlock, Exit.then]
            refine bodyPost_ret (results_tc rfl _ _ _ 46 _ (0, 0) _ rfl HT9.out.res.heap HU.out rfl (info41 HT9.out.res.len)) rfl ?_
            exact ⟨by rw [HE.out, HDX.out]; first | done | rfl, HT9.out.below⟩
          · have hzb := bF hz
            cases hoth : d.others m k 16 with
            | false =>
              have hE : d.preE (m : Int) k = 10 := preE_no hok.out (by simpa using hz) hoth
              have HDX := Lib.hid (pre_no (d := d) (n := (m : Int)) (k := k) (by rw [hE]; decide))
              have HE := Lib.hid hE
              obtain rfl : c = 0 := HC.out.2 hoth
              clear hE hz hoth
              go_wp2_with (fail)
              refine wp_region_still_tail 2 (by kernel_rfl) (by kernel_rfl) ?_
              simp only [List.take_succ_cons, List.take_zero, List.drop_succ_cons, List.drop_zero]
              refine wpStill_load_row rfl 46 _ rfl _ rfl 46 _ (0, 0) _ (HO.out).heap HU.out rfl (info41 (HO.out).len) ?_
              still_step
              refine wpStill_nil ?_
              change wpList _ _ _ _ _ (World.drew _)
              refine wpList_store_row rfl 46 _ _ rfl _ _ rfl rfl 46 _ (HT.out).drew_.res.heap (info41 (HO.out).len) (by rw [cells_size (HO.out).len, cells_size (HT.out).res.len]) (one41 _) ?_
              have T9 := HT.out.drew_.onRes (Only.setRow d.cells) (HT.out.drew_.res.setRow d HO.out.len)
              generalize World.setRow _ _ _ = w9 at *
              have HT9 := Lib.hid T9
              clear T9
              go_wp2_with (fail)
              try simp only [Exit.inBlock, Exit.then]
              refine bodyPost_ret (results_tc rfl _ _ _ 46 _ (0, 0) _ rfl HT9.out.res.heap HU.out rfl (info41 HT9.out.res.len)) rfl ?_
              exact ⟨by rw [HE.out, HDX.out]; first | done | rfl, HT9.out.below⟩
            | true =>
              have hE : d.preE (m : Int) k = 0 := preE_ok hok.out (by simpa using hz) hoth
              have HPY := Lib.hid (pre_yes hE)
              have HE := Lib.hid hE
              have hc1 : 0 < c := by
                rcases Nat.eq_zero_or_pos c with h0 | h0
                · have := HC.out.1 h0; rw [hoth] at this; cases this
                · exact h0
              have hc2 : ((c : Int) == 0) = false := by rw [beq_eq_false_iff_ne]; omega
              have d2 : wr.cell? ⟨b1, 16, none⟩ = some (.int .i64 d.holder) := HT.out.box.holderCell
              have d3 : wr.cell? ⟨b1, 17, none⟩ = some (.int .i64 d.kind) := HT.out.box.kindCell
              have f2 := HT.out.box.frozen 16
              clear hE hz hoth
              by_cases hd : d.kind = 0
              · have hdb := nF hd
                have HDX : Hid (d.pre (m : Int) k = Dk.mk (d.struck m k 16) d.holder d.kind d.keep) := Lib.hid (by
                  rw [HPY.out]
                  cases hh : d.held m k 16 with
                  | false => rfl
                  | true => exact absurd hd (held_spec hh).1)
                clear hd
                go_wp2_with (fail)
                refine wp_region_still_tail 2 (by kernel_rfl) (by kernel_rfl) ?_
                simp only [List.take_succ_cons, List.take_zero, List.drop_succ_cons, List.drop_zero]
                refine wpStill_load_row rfl 46 _ rfl _ rfl 46 _ (0, 0) _ (HT.out).box.heap HU.out rfl (info41 (HT.out).box.len) ?_
                still_step
                refine wpStill_nil ?_
                change wpList _ _ _ _ _ (World.drew _)
                refine wpList_store_row rfl 46 _ _ rfl _ _ rfl rfl 46 _ (HT.out).drew_.res.heap (info41 (HT.out).box.len) (by rw [cells_size (HT.out).box.len, cells_size (HT.out).res.len]) (one41 _) ?_
                have T9 := HT.out.drew_.onRes (Only.setRow (Dk.mk (d.struck m k 16) d.holder d.kind d.keep).cells) (HT.out.drew_.res.setRow (Dk.mk (d.struck m k 16) d.holder d.kind d.keep) HT.out.box.len)
                generalize World.setRow _ _ _ = w9 at *
                have HT9 := Lib.hid T9
                clear T9
                go_wp2_with (fail)
                try simp only [Exit.inBlock, Exit.then]
                refine bodyPost_ret (results_tc rfl _ _ _ 46 _ (0, 0) _ rfl HT9.out.res.heap HU.out rfl (info41 HT9.out.res.len)) rfl ?_
                exact ⟨by rw [HE.out, HDX.out]; first | done | rfl, HT9.out.below⟩
              · have hdb := nT hd
                by_cases hh : d.holder = (m : Int)
                · have hhb := nF hh
                  have HDX : Hid (d.pre (m : Int) k = Dk.mk (d.struck m k 16) d.holder d.kind d.keep) := Lib.hid (by
                    rw [HPY.out]
                    cases hx : d.held m k 16 with
                    | false => rfl
                    | true => exact absurd hh (held_spec hx).2.1)
                  clear hd hh
                  go_wp2_with (fail)
                  refine wp_region_still_tail 2 (by kernel_rfl) (by kernel_rfl) ?_
                  simp only [List.take_succ_cons, List.take_zero, List.drop_succ_cons, List.drop_zero]
                  refine wpStill_load_row rfl 46 _ rfl _ rfl 46 _ (0, 0) _ (HT.out).box.heap HU.out rfl (info41 (HT.out).box.len) ?_
                  still_step
                  refine wpStill_nil ?_
                  change wpList _ _ _ _ _ (World.drew _)
                  refine wpList_store_row rfl 46 _ _ rfl _ _ rfl rfl 46 _ (HT.out).drew_.res.heap (info41 (HT.out).box.len) (by rw [cells_size (HT.out).box.len, cells_size (HT.out).res.len]) (one41 _) ?_
                  have T9 := HT.out.drew_.onRes (Only.setRow (Dk.mk (d.struck m k 16) d.holder d.kind d.keep).cells) (HT.out.drew_.res.setRow (Dk.mk (d.struck m k 16) d.holder d.kind d.keep) HT.out.box.len)
                  generalize World.setRow _ _ _ = w9 at *
                  have HT9 := Lib.hid T9
                  clear T9
                  go_wp2_with (fail)
                  try simp only [Exit.inBlock, Exit.then]
                  refine bodyPost_ret (results_tc rfl _ _ _ 46 _ (0, 0) _ rfl HT9.out.res.heap HU.out rfl (info41 HT9.out.res.len)) rfl ?_
                  exact ⟨by rw [HE.out, HDX.out]; first | done | rfl, HT9.out.below⟩
                · have hhb := nT hh
                  have hin := HINV.out hd
                  obtain ⟨h, hhe⟩ := Int.eq_ofNat_of_zero_le hin.1
                  have h16 : h < 16 := by have := hin.2; omega
                  have co : wr.cell? ⟨b3, h, none⟩ = some (.int .u64 (d.key h)) := HO.out.keyCell h16
                  rw [hhe] at d2 hhb
                  by_cases hkk : d.key h = k
                  · have hkb := bT hkk
                    have HDX : Hid (d.pre (m : Int) k = Dk.mk (d.struck m k 16) (m : Int) d.kind d.keep) := Lib.hid (by
                      rw [HPY.out, held_true hd hhe h16 hh hkk]; rfl)
                    have HT' := Lib.hid (HT.out.onBox (Only.set (p := ⟨b1, 16, none⟩) _) (HT.out.box.setHolder (m : Int)))
                    clear hd hh hkk hin hhe
                    go_wp2_with (fail)
                    refine wp_region_still_tail 2 (by kernel_rfl) (by kernel_rfl) ?_
                    simp only [List.take_succ_cons, List.take_zero, List.drop_succ_cons, List.drop_zero]
                    refine wpStill_load_row rfl 46 _ rfl _ rfl 46 _ (0, 0) _ (HT'.out).box.heap HU.out rfl (info41 (HT'.out).box.len) ?_
                    still_step
                    refine wpStill_nil ?_
                    change wpList _ _ _ _ _ (World.drew _)
                    refine wpList_store_row rfl 46 _ _ rfl _ _ rfl rfl 46 _ (HT'.out).drew_.res.heap (info41 (HT'.out).box.len) (by rw [cells_size (HT'.out).box.len, cells_size (HT'.out).res.len]) (one41 _) ?_
                    have T9 := HT'.out.drew_.onRes (Only.setRow (Dk.mk (d.struck m k 16) (m : Int) d.kind d.keep).cells) (HT'.out.drew_.res.setRow (Dk.mk (d.struck m k 16) (m : Int) d.kind d.keep) HT'.out.box.len)
                    generalize World.setRow _ _ _ = w9 at *
                    have HT9 := Lib.hid T9
                    clear T9
                    go_wp2_with (fail)
                    try simp only [Exit.inBlock, Exit.then]
                    refine bodyPost_ret (results_tc rfl _ _ _ 46 _ (0, 0) _ rfl HT9.out.res.heap HU.out rfl (info41 HT9.out.res.len)) rfl ?_
                    exact ⟨by rw [HE.out, HDX.out]; first | done | rfl, HT9.out.below⟩
                  · have hkb := bF hkk
                    have HDX : Hid (d.pre (m : Int) k = Dk.mk (d.struck m k 16) d.holder d.kind d.keep) := Lib.hid (by
                      rw [HPY.out]
                      cases hx : d.held m k 16 with
                      | false => rfl
                      | true =>
                        obtain ⟨_, _, i, h1, h2⟩ := held_spec hx
                        have : i = h := by omega
                        rw [this] at h2
                        exact absurd h2 hkk)
                    clear hd hh hkk hin hhe
                    go_wp2_with (fail)
                    refine wp_region_still_tail 2 (by kernel_rfl) (by kernel_rfl) ?_
                    simp only [List.take_succ_cons, List.take_zero, List.drop_succ_cons, List.drop_zero]
                    refine wpStill_load_row rfl 46 _ rfl _ rfl 46 _ (0, 0) _ (HT.out).box.heap HU.out rfl (info41 (HT.out).box.len) ?_
                    still_step
                    refine wpStill_nil ?_
                    change wpList _ _ _ _ _ (World.drew _)
                    refine wpList_store_row rfl 46 _ _ rfl _ _ rfl rfl 46 _ (HT.out).drew_.res.heap (info41 (HT.out).box.len) (by rw [cells_size (HT.out).box.len, cells_size (HT.out).res.len]) (one41 _) ?_
                    have T9 := HT.out.drew_.onRes (Only.setRow (Dk.mk (d.struck m k 16) d.holder d.kind d.keep).cells) (HT.out.drew_.res.setRow (Dk.mk (d.struck m k 16) d.holder d.kind d.keep) HT.out.box.len)
                    generalize World.setRow _ _ _ = w9 at *
                    have HT9 := Lib.hid T9
                    clear T9
                    go_wp2_with (fail)
                    try simp only [Exit.inBlock, Exit.then]
                    refine bodyPost_ret (results_tc rfl _ _ _ 46 _ (0, 0) _ rfl HT9.out.res.heap HU.out rfl (info41 HT9.out.res.len)) rfl ?_
                    exact ⟨by rw [HE.out, HDX.out]; first | done | rfl, HT9.out.below⟩
  · rw [decide_eq_false hi] at C0
    have hE : d.preE n k = 2 := preE_arg (.inl hi)
    have HDX := Lib.hid (pre_no (d := d) (n := n) (k := k) (by rw [hE]; decide))
    have HE := Lib.hid hE
    clear hE hi hu hl hinv
    go_enter Try.func39, Try.ntmps39
    go_wp2_with (fail)
    refine (C0 _).mono ?_
    rintro e w1 ⟨rfl, hw1⟩
    have T1 : Two w w1 w.heap.size (w.heap.size + 1) d Dk.new := by rw [hw1]; exact T0
    have HT1 := Lib.hid T1
    clear hw1 T0 T1 C0
    go_wp2_with (fail)
    have HT := HT1
    refine wp_region_still_tail 2 (by kernel_rfl) (by kernel_rfl) ?_
    simp only [List.take_succ_cons, List.take_zero, List.drop_succ_cons, List.drop_zero]
    refine wpStill_load_row rfl 46 _ rfl _ rfl 46 _ (0, 0) _ (HT.out).box.heap HU.out rfl (info41 (HT.out).box.len) ?_
    still_step
    refine wpStill_nil ?_
    change wpList _ _ _ _ _ (World.drew _)
    refine wpList_store_row rfl 46 _ _ rfl _ _ rfl rfl 46 _ (HT.out).drew_.res.heap (info41 (HT.out).box.len) (by rw [cells_size (HT.out).box.len, cells_size (HT.out).res.len]) (one41 _) ?_
    have T9 := HT.out.drew_.onRes (Only.setRow d.cells) (HT.out.drew_.res.setRow d HT.out.box.len)
    generalize World.setRow _ _ _ = w9 at *
    have HT9 := Lib.hid T9
    clear T9
    go_wp2_with (fail)
    try simp only [Exit.inBlock, Exit.then]
    refine bodyPost_ret (results_tc rfl _ _ _ 46 _ (0, 0) _ rfl HT9.out.res.heap HU.out rfl (info41 HT9.out.res.len)) rfl ?_
    exact ⟨by rw [HE.out, HDX.out]; first | done | rfl, HT9.out.below⟩
end Go.Proofs.Ytjpdjhmajjbgmaa.Res
