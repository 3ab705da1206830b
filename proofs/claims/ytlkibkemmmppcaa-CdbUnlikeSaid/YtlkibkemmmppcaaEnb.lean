/- CdbEncodes, walked: what is no command; and any. -/
import Derived.Test.YtlkibkemmmppcaaDes
namespace Go.Proofs.Ytlkibkemmmppcaa.Wd
open Go.RowKit
set_option linter.unusedVariables false
set_option linter.unusedSimpArgs false
set_option maxRecDepth 100000 in
set_option maxHeartbeats 8000000 in
theorem encodes_bad (c : Cmd) (dv : Value) (w : World) (hs : Secs w dv c) (hl : c.n * 16 ≤ 140737488355328) (hok : ¬ c.plain.ok) :
    Calls Try.prog 3 #[c.val dv] w fun e w' => e = .returned (.bool true) ∧ Below w.heap.size w w' := by
  have hk1 : Kp w (w.alloc (.cells #[.int .i64 c.kind, .int .i64 c.lba, .int .i64 c.count, dv, .int .u64 c.key, .int .i64 c.res, .bool c.keep] 25)) w.heap.size #[.int .i64 c.kind, .int .i64 c.lba, .int .i64 c.count, dv, .int .u64 c.key, .int .i64 c.res, .bool c.keep] dv c := ⟨heap_alloc_new w _, hs.below (balloc w _), balloc w _⟩
  have HK1 := Lib.hid hk1
  have HOK := Lib.hid hok
  have HL := Lib.hid hl
  clear hk1 hs hok hl
  unfold Cmd.val
  go_enter Try.func3, Try.ntmps3
  go_wp2_with (refine wpList_load_row rfl 25 _ rfl w.heap.size rfl 25 _ (0, 0) _ HK1.out.box Try.underlying25 rfl (by kernel_rfl) ?_)
  generalize World.alloc _ _ = w1 at *
  have HO := Lib.hid (own_any c dv w1 HK1.out.secs HL.out)
  unfold Cmd.val at HO
  with_reducible refine (HO.out).mono ?_
  rintro e w2 ⟨dv2, rfl, ho2, hb2⟩
  have HK2 := Lib.hid (HK1.out.kept hb2)
  have HC2 := Lib.hid (enc_bad c dv2 w2 ho2.secs HL.out HOK.out)
  clear ho2 hb2 HK1
  unfold Cmd.val at HC2
  go_wp2_with (fail)
  with_reducible refine (HC2.out).mono ?_
  rintro e w3 ⟨rfl, hb3⟩
  have HK3 := Lib.hid (HK2.out.kept hb3)
  clear hb3 HK2 HC2
  have HC3 := Lib.hid (renc_bad c dv w3 HK3.out.secs HL.out HOK.out)
  unfold Cmd.val at HC3
  go_wp2_with (refine wpList_load_row rfl 25 _ rfl w.heap.size rfl 25 _ (0, 0) _ HK3.out.box Try.underlying25 rfl (by kernel_rfl) ?_)
  with_reducible refine (HC3.out).mono ?_
  rintro e w4 ⟨rfl, hb4⟩
  have HK4 := Lib.hid (HK3.out.kept hb4)
  clear hb4 HK3 HC3
  go_wp2_with (fail)
  refine (awake_any _).mono ?_
  rintro e w5 ⟨rfl, hb5⟩
  have HK5 := Lib.hid (HK4.out.kept hb5)
  clear hb5 HK4
  have hsb := same_bytes (.slice none 0 0) (.slice none 0 0) 0 0 [] [] w5 (Rd.nil _ 1) (Rd.nil _ 1)
  rw [decide_eq_true rfl] at hsb
  have HSB := Lib.hid hsb
  clear hsb
  go_wp2_with (fail)
  refine (HSB.out).mono ?_
  rintro e w6 ⟨rfl, hb6⟩
  have HK6 := Lib.hid (HK5.out.kept hb6)
  clear hb6 HK5 HSB
  have HD := Lib.hid (dec_short (.slice none 0 0) 0 [] w6 (Rd.nil _ 1) (by decide))
  go_wp2_with (fail)
  refine (HD.out).mono ?_
  rintro e w7 ⟨rfl, hb7⟩
  have HK7 := Lib.hid (HK6.out.kept hb7)
  clear hb7 HK6 HD
  unfold Cmd.val
  go_upto_region 6 with (refine wpList_store_row rfl 25 _ _ rfl w7.heap.size _ rfl rfl 25 _ (heap_alloc_new w7 _) (by kernel_rfl) rfl (row_one _ _ _ _ _ _ _ _ _) ?_)
  have hn8 := new_row w7 #[.int .i64 0, .int .i64 0, .int .i64 0, .slice none 0 0, .int .u64 0, .int .i64 0, .bool false] #[.int .i64 czero.kind, .int .i64 czero.lba, .int .i64 czero.count, .slice none 0 0, .int .u64 czero.key, .int .i64 czero.res, .bool czero.keep]
  have HK8 := Lib.hid (HK7.out.kept hn8.2)
  generalize World.setRow _ _ _ = w8 at *
  clear hn8 HK7
  go_quiet (fail)
  all_goals
    go_wp2_with (fail)
    go_ret
    exact ⟨rfl, belowN HK8.out.below _⟩
theorem encodes_walk (c : Cmd) (dv : Value) (w : World) (hs : Secs w dv c) (hl : c.n * 16 ≤ 140737488355328) (hbr : ∀ x ∈ c.bs, 0 ≤ x ∧ x ≤ 255) (hkr : 0 ≤ c.key ∧ c.key < 18446744073709551616) :
    Calls Try.prog 3 #[c.val dv] w fun e w' => e = .returned (.bool true) ∧ Below w.heap.size w w' := by
  by_cases hok : c.plain.ok
  · exact encodes_ok c dv w hs hl hbr ⟨hkr, by have := hs.len; unfold u8s at this; simpa using this⟩ hok
  · exact encodes_bad c dv w hs hl hok
end Go.Proofs.Ytlkibkemmmppcaa.Wd
