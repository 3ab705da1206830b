/- CdbDecodes, walked. -/
import Derived.Test.YtlkibkemmmppcaaEns
namespace Go.Proofs.Ytlkibkemmmppcaa.Wd
open Go.RowKit
set_option linter.unusedVariables false
set_option linter.unusedSimpArgs false
theorem new_row (w : World) (Z C : Array Value) : ((w.alloc (.cells Z 25)).setRow w.heap.size C).heap[w.heap.size]? = some (.cells C 25 (0, 0)) ∧ Below w.heap.size w ((w.alloc (.cells Z 25)).setRow w.heap.size C) :=
  ⟨heap_setRow (heap_alloc_new w _) _, Only.below (balloc w _) (Only.setRow _) (by simp) (by simp)⟩
/-- A copy of bytes behind an empty row. -/
theorem copy_bytes (w : World) (u : Value) (m : Nat) (ys : List Value) (hu : Rd w u m 1 ys) (h1 : ∀ y ∈ ys, y.oneCell' = true) (hl : m ≤ 140737488355328) :
    ∃ v' w', (Builtin.append_ #[26, 26] 26 #[.slice (some ⟨w.heap.size, 0, none⟩) 0 0, u]).run Try.prog (w.alloc (.cells #[] 5)) = .ok v' w' ∧ w'.ownsRow w.heap.size 5 1 v' m ys ∧ Below w.heap.size w w' := by
  have B1 : Below w.heap.size w (w.alloc (.cells #[] 5)) := balloc w _
  have O1 : (w.alloc (.cells #[] 5)).ownsRow w.heap.size 5 1 (.slice (some ⟨w.heap.size, 0, none⟩) 0 0) 0 [] := World.ownsRow_lit w #[] 0 (Nat.le_refl _) (by unfold maxLen; omega) rfl
  have R1 := cat_bytes (w.alloc (.cells #[] 5)) w.heap.size _ 0 [] u m ys O1 (hu.below B1) h1 (by omega) (by simp)
  rw [Nat.zero_add, List.nil_append] at R1
  obtain ⟨v1, w1, hr1, hown1, hg1, hb1⟩ := R1
  exact ⟨v1, w1, hr1, hown1, B1.grown hg1 (by simp) (fun q hq => by simp [Value.ownBlock] at hq; omega)⟩
theorem czero_bad : ¬ czero.plain.ok := by intro h; have := h.1; revert this; decide
set_option maxRecDepth 100000 in
set_option maxHeartbeats 8000000 in
theorem decodes_yes (v : Value) (n : Nat) (bs : List Int) (w : World) (h : Rd w v n 1 (u8s bs)) (hn : n ≤ 140737488355328) (hby : ∀ x ∈ bs, 0 ≤ x ∧ x ≤ 255) (hg : (prs bs).plain.ok ∧ (prs bs).plain.bytes = bs) :
    Calls Try.prog 4 #[v] w fun e w' => e = .returned (.bool true) ∧ Below w.heap.size w w' := by
  obtain ⟨v1, w1, hr, ho1, hb1⟩ := copy_bytes w v n (u8s bs) h (u8s_one _) hn
  have HG := Lib.hid hg
  have HR := Lib.hid hr
  have H := Lib.hid h
  have HBY := Lib.hid hby
  have HB1 := Lib.hid hb1
  have HD1 := Lib.hid (dec_any v1 n bs w1 (Rd.of_own ho1) hby)
  clear hg hr h hby hb1 ho1
  go_enter Try.func4, Try.ntmps4
  go_wp2_with (first | (at_builtin; refine wpList_append_ran rfl (.tmp 10) (.tmp 11) 26 rfl _ _ rfl rfl _ _ HR.out ?_))
  refine (HD1.out).mono ?_
  rintro e w2 hdp
  obtain ⟨_, dv2, rfl, ho2, hb2⟩ | ⟨hno, _, _⟩ := hdp
  rotate_left
  · exact absurd HG.out hno
  obtain ⟨A2, c2, rfl, _, _⟩ := own_form ho2
  have HS2 := Lib.hid (show Secs w2 (.slice A2 (prs bs).plain.n c2) (prs bs).plain from Rd.of_own ho2)
  clear ho2
  unfold Cmd.val
  have HB2 := Lib.hid (HB1.out.trans (hb2.mono HB1.out.size))
  clear hb2 HB1 HD1 HR
  go_upto_region 2 with (refine wpList_store_row rfl 25 _ _ rfl w2.heap.size _ rfl rfl 25 _ (heap_alloc_new w2 _) (by kernel_rfl) rfl (row_one _ _ _ _ _ _ _ _ _) ?_)
  have hn3 := new_row w2 #[.int .i64 0, .int .i64 0, .int .i64 0, .slice none 0 0, .int .u64 0, .int .i64 0, .bool false] #[.int .i64 (prs bs).plain.kind, .int .i64 (prs bs).plain.lba, .int .i64 (prs bs).plain.count, .slice A2 (prs bs).plain.n c2, .int .u64 (prs bs).plain.key, .int .i64 (prs bs).plain.res, .bool (prs bs).plain.keep]
  generalize World.setRow _ _ _ = w3 at hn3 ⊢
  have HX3 := Lib.hid hn3.1
  have HB3 := Lib.hid (HB2.out.trans (hn3.2.mono HB2.out.size))
  have HS3 := Lib.hid (HS2.out.below hn3.2)
  clear hn3 HB2 HS2
  have HD3 := Lib.hid (rdec_any v n bs w3 (H.out.below HB3.out) HBY.out)
  go_wp2_with (fail)
  refine (HD3.out).mono ?_
  rintro e w4 hdp
  obtain ⟨_, dv4, rfl, ho4, hb4⟩ | ⟨hno, _, _⟩ := hdp
  rotate_left
  · exact absurd HG.out hno
  obtain ⟨A4, c4, rfl, _, _⟩ := own_form ho4
  have HS4 := Lib.hid (show Secs w4 (.slice A4 (prs bs).plain.n c4) (prs bs).plain from Rd.of_own ho4)
  clear ho4
  unfold Cmd.val
  have HX4 := Lib.hid ((hb4.block _ (lt_of_heap HX3.out)).trans HX3.out)
  have HB4 := Lib.hid (HB3.out.trans (hb4.mono HB3.out.size))
  have HT4 := Lib.hid (HS3.out.below hb4)
  clear hb4 HX3 HB3 HS3 HD3
  go_upto_region 3 with (refine wpList_store_row rfl 25 _ _ rfl w4.heap.size _ rfl rfl 25 _ (heap_alloc_new w4 _) (by kernel_rfl) rfl (row_one _ _ _ _ _ _ _ _ _) ?_)
  have hn5 := new_row w4 #[.int .i64 0, .int .i64 0, .int .i64 0, .slice none 0 0, .int .u64 0, .int .i64 0, .bool false] #[.int .i64 (prs bs).plain.kind, .int .i64 (prs bs).plain.lba, .int .i64 (prs bs).plain.count, .slice A4 (prs bs).plain.n c4, .int .u64 (prs bs).plain.key, .int .i64 (prs bs).plain.res, .bool (prs bs).plain.keep]
  generalize World.setRow _ _ _ = w5 at hn5 ⊢
  have HY5 := Lib.hid hn5.1
  have HX5 := Lib.hid ((hn5.2.block _ (lt_of_heap HX4.out)).trans HX4.out)
  have HB5 := Lib.hid (HB4.out.trans (hn5.2.mono HB4.out.size))
  have HS5 := Lib.hid (HS4.out.below hn5.2)
  have HT5 := Lib.hid (HT4.out.below hn5.2)
  clear hn5 HX4 HB4 HS4 HT4
  go_wp2_with (fail)
  refine (awake_any _).mono ?_
  rintro e w6 ⟨rfl, hb6⟩
  have HY6 := Lib.hid ((hb6.block _ (lt_of_heap HY5.out)).trans HY5.out)
  have HX6 := Lib.hid ((hb6.block _ (lt_of_heap HX5.out)).trans HX5.out)
  have HB6 := Lib.hid (HB5.out.trans (hb6.mono HB5.out.size))
  have HS6 := Lib.hid (HS5.out.below hb6)
  have HT6 := Lib.hid (HT5.out.below hb6)
  clear hb6 HX5 HY5 HB5 HS5 HT5
  have HSM := Lib.hid (same_yes (prs bs).plain (.slice A2 (prs bs).plain.n c2) (.slice A4 (prs bs).plain.n c4) w6 HT6.out HS6.out)
  unfold Cmd.val at HSM
  obtain ⟨c0, c1, c2', c3, c4', c5, c6⟩ := row_cells HX6.out
  obtain ⟨d0, d1, d2, d3, d4, d5, d6⟩ := row_cells HY6.out
  go_wp2_with (fail)
  refine (HSM.out).mono ?_
  rintro e w7 ⟨rfl, hb7⟩
  have HX7 := Lib.hid ((hb7.block _ (lt_of_heap HX6.out)).trans HX6.out)
  have HB7 := Lib.hid (HB6.out.trans (hb7.mono HB6.out.size))
  have HT7 := Lib.hid (HT6.out.below hb7)
  clear hb7 HX6 HY6 HB6 HS6 HT6 HSM c0 c1 c2' c3 c4' c5 c6 d0 d1 d2 d3 d4 d5 d6
  have HE7 := Lib.hid (enc_ok (prs bs).plain (.slice A2 (prs bs).plain.n c2) w7 HT7.out (by have := HG.out.1.2.2.2.2.2.2.2.2; omega) (by rw [plain_plain]; exact HG.out.1))
  rw [plain_plain, HG.out.2] at HE7
  unfold Cmd.val at HE7
  go_wp2_with (refine wpList_load_row rfl 25 (.tmp 3) rfl w2.heap.size rfl 25 _ (0, 0) _ HX7.out Try.underlying25 rfl (by kernel_rfl) ?_)
  refine (HE7.out).mono ?_
  rintro e w8 ⟨v8, rfl, ho8, hb8⟩
  have HB8 := Lib.hid (HB7.out.trans (hb8.mono HB7.out.size))
  have hsb := same_bytes v8 v _ n _ bs w8 (Rd.of_own ho8) (H.out.below HB8.out)
  rw [decide_eq_true rfl] at hsb
  have HSB := Lib.hid hsb
  clear hsb ho8 hb8 HX7 HB7 HT7 HE7
  go_wp2_with (fail)
  refine (HSB.out).mono ?_
  rintro e w9 ⟨rfl, hb9⟩
  have HB9 := Lib.hid (HB8.out.trans (hb9.mono HB8.out.size))
  clear hb9 HSB
  go_wp2_with (fail)
  go_ret
  exact ⟨rfl, HB9.out⟩
set_option maxRecDepth 100000 in
set_option maxHeartbeats 8000000 in
theorem decodes_no (v : Value) (n : Nat) (bs : List Int) (w : World) (h : Rd w v n 1 (u8s bs)) (hn : n ≤ 140737488355328) (hby : ∀ x ∈ bs, 0 ≤ x ∧ x ≤ 255) (hg : ¬ ((prs bs).plain.ok ∧ (prs bs).plain.bytes = bs)) :
    Calls Try.prog 4 #[v] w fun e w' => e = .returned (.bool true) ∧ Below w.heap.size w w' := by
  obtain ⟨v1, w1, hr, ho1, hb1⟩ := copy_bytes w v n (u8s bs) h (u8s_one _) hn
  have HG := Lib.hid hg
  have HR := Lib.hid hr
  have H := Lib.hid h
  have HBY := Lib.hid hby
  have HB1 := Lib.hid hb1
  have HD1 := Lib.hid (dec_any v1 n bs w1 (Rd.of_own ho1) hby)
  clear hg hr h hby hb1 ho1
  go_enter Try.func4, Try.ntmps4
  go_wp2_with (first | (at_builtin; refine wpList_append_ran rfl (.tmp 10) (.tmp 11) 26 rfl _ _ rfl rfl _ _ HR.out ?_))
  refine (HD1.out).mono ?_
  rintro e w2 hdp
  obtain ⟨hno, _, _⟩ | ⟨_, rfl, hb2⟩ := hdp
  · exact absurd hno HG.out
  have HS2 := Lib.hid (show Secs w2 (.slice none 0 0) czero from Rd.nil _ 16)
  unfold Cmd.val
  have HB2 := Lib.hid (HB1.out.trans (hb2.mono HB1.out.size))
  clear hb2 HB1 HD1 HR
  go_upto_region 2 with (refine wpList_store_row rfl 25 _ _ rfl w2.heap.size _ rfl rfl 25 _ (heap_alloc_new w2 _) (by kernel_rfl) rfl (row_one _ _ _ _ _ _ _ _ _) ?_)
  have hn3 := new_row w2 #[.int .i64 0, .int .i64 0, .int .i64 0, .slice none 0 0, .int .u64 0, .int .i64 0, .bool false] #[.int .i64 czero.kind, .int .i64 czero.lba, .int .i64 czero.count, .slice none 0 0, .int .u64 czero.key, .int .i64 czero.res, .bool czero.keep]
  generalize World.setRow _ _ _ = w3 at hn3 ⊢
  have HX3 := Lib.hid hn3.1
  have HB3 := Lib.hid (HB2.out.trans (hn3.2.mono HB2.out.size))
  have HS3 := Lib.hid (HS2.out.below hn3.2)
  clear hn3 HB2 HS2
  have HD3 := Lib.hid (rdec_any v n bs w3 (H.out.below HB3.out) HBY.out)
  go_wp2_with (fail)
  refine (HD3.out).mono ?_
  rintro e w4 hdp
  obtain ⟨hno, _, _⟩ | ⟨_, rfl, hb4⟩ := hdp
  · exact absurd hno HG.out
  have HS4 := Lib.hid (show Secs w4 (.slice none 0 0) czero from Rd.nil _ 16)
  unfold Cmd.val
  have HX4 := Lib.hid ((hb4.block _ (lt_of_heap HX3.out)).trans HX3.out)
  have HB4 := Lib.hid (HB3.out.trans (hb4.mono HB3.out.size))
  have HT4 := Lib.hid (HS3.out.below hb4)
  clear hb4 HX3 HB3 HS3 HD3
  go_upto_region 3 with (refine wpList_store_row rfl 25 _ _ rfl w4.heap.size _ rfl rfl 25 _ (heap_alloc_new w4 _) (by kernel_rfl) rfl (row_one _ _ _ _ _ _ _ _ _) ?_)
  have hn5 := new_row w4 #[.int .i64 0, .int .i64 0, .int .i64 0, .slice none 0 0, .int .u64 0, .int .i64 0, .bool false] #[.int .i64 czero.kind, .int .i64 czero.lba, .int .i64 czero.count, .slice none 0 0, .int .u64 czero.key, .int .i64 czero.res, .bool czero.keep]
  generalize World.setRow _ _ _ = w5 at hn5 ⊢
  have HY5 := Lib.hid hn5.1
  have HX5 := Lib.hid ((hn5.2.block _ (lt_of_heap HX4.out)).trans HX4.out)
  have HB5 := Lib.hid (HB4.out.trans (hn5.2.mono HB4.out.size))
  have HS5 := Lib.hid (HS4.out.below hn5.2)
  have HT5 := Lib.hid (HT4.out.below hn5.2)
  clear hn5 HX4 HB4 HS4 HT4
  go_wp2_with (fail)
  refine (awake_any _).mono ?_
  rintro e w6 ⟨rfl, hb6⟩
  have HY6 := Lib.hid ((hb6.block _ (lt_of_heap HY5.out)).trans HY5.out)
  have HX6 := Lib.hid ((hb6.block _ (lt_of_heap HX5.out)).trans HX5.out)
  have HB6 := Lib.hid (HB5.out.trans (hb6.mono HB5.out.size))
  have HS6 := Lib.hid (HS5.out.below hb6)
  have HT6 := Lib.hid (HT5.out.below hb6)
  clear hb6 HX5 HY5 HB5 HS5 HT5
  have HSM := Lib.hid (same_yes czero (.slice none 0 0) (.slice none 0 0) w6 HT6.out HS6.out)
  unfold Cmd.val at HSM
  obtain ⟨c0, c1, c2', c3, c4', c5, c6⟩ := row_cells HX6.out
  obtain ⟨d0, d1, d2, d3, d4, d5, d6⟩ := row_cells HY6.out
  go_wp2_with (fail)
  refine (HSM.out).mono ?_
  rintro e w7 ⟨rfl, hb7⟩
  have HX7 := Lib.hid ((hb7.block _ (lt_of_heap HX6.out)).trans HX6.out)
  have HB7 := Lib.hid (HB6.out.trans (hb7.mono HB6.out.size))
  have HT7 := Lib.hid (HT6.out.below hb7)
  clear hb7 HX6 HY6 HB6 HS6 HT6 HSM c0 c1 c2' c3 c4' c5 c6 d0 d1 d2 d3 d4 d5 d6
  have HE7 := Lib.hid (enc_bad czero (.slice none 0 0) w7 HT7.out (by decide) czero_bad)
  unfold Cmd.val at HE7
  go_wp2_with (refine wpList_load_row rfl 25 (.tmp 3) rfl w2.heap.size rfl 25 _ (0, 0) _ HX7.out Try.underlying25 rfl (by kernel_rfl) ?_)
  refine (HE7.out).mono ?_
  rintro e w8 ⟨rfl, hb8⟩
  have HB8 := Lib.hid (HB7.out.trans (hb8.mono HB7.out.size))
  clear hb8 HX7 HB7 HT7 HE7
  go_wp2_with (fail)
  go_ret
  exact ⟨rfl, HB8.out⟩
theorem decodes_walk (v : Value) (n : Nat) (bs : List Int) (w : World) (h : Rd w v n 1 (u8s bs)) (hn : n ≤ 140737488355328 - 4096) (hby : ∀ x ∈ bs, 0 ≤ x ∧ x ≤ 255) :
    Calls Try.prog 4 #[v] w fun e w' => e = .returned (.bool true) ∧ Below w.heap.size w w' := by
  by_cases hg : (prs bs).plain.ok ∧ (prs bs).plain.bytes = bs
  · exact decodes_yes v n bs w h (by omega) hby hg
  · exact decodes_no v n bs w h (by omega) hby hg
end Go.Proofs.Ytlkibkemmmppcaa.Wd
