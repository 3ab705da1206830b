/- The document's Encode, walked. -/
import Derived.Test.YtlkibkemmmppcaaPut
import Derived.Test.YtlkibkemmmppcaaRpl
namespace Go.Proofs.Ytlkibkemmmppcaa.Wd
open Go.RowKit
set_option linter.unusedVariables false
set_option linter.unusedSimpArgs false
set_option maxRecDepth 100000 in
set_option maxHeartbeats 8000000 in
theorem renc_bad (c : Cmd) (dv : Value) (w : World) (hs : Secs w dv c) (hl : c.n * 16 ≤ 140737488355328) (hok : ¬ c.plain.ok) :
    Calls Try.prog 10 #[c.val dv] w fun e w' => e = .returned (.tuple #[.slice none 0 0, .int .i64 2]) ∧ Below w.heap.size w w' := by
  have HOK := Lib.hid hok
  clear hok
  have HB1 : ∀ o, Below w.heap.size w (w.alloc o) := fun o => balloc w o
  have HX1 : ∀ cs, (w.alloc (.cells cs 25)).heap[w.heap.size]? = some (.cells cs 25 (0, 0)) := fun cs => heap_alloc_new w _
  have HC : ∀ o, Calls Try.prog 15 #[c.val dv] (w.alloc o) fun e w' => ∃ dv', e = .returned (c.plain.val dv') ∧ Own w' (w.alloc o).heap.size dv' c.plain ∧ Below (w.alloc o).heap.size (w.alloc o) w' := fun o => rplain_any c dv (w.alloc o) (hs.below (HB1 o)) hl
  have C := Lib.hid HC
  clear HC hs
  generalize c.plain = p at *
  obtain ⟨kind, lba, count, n, bs, key, res, keep⟩ := c
  simp only at hl
  unfold Cmd.val at C ⊢
  go_enter Try.func10, Try.ntmps10
  go_wp2_with (fail)
  refine (C.out _).mono ?_
  rintro e w2 ⟨dv2, rfl, ho2, hb2⟩
  have hx2 := (hb2.block w.heap.size (by simp)).trans (HX1 _)
  obtain ⟨A, cap, rfl, _, _⟩ := own_form ho2
  have HO2 := Lib.hid ho2
  have HBB := Lib.hid ((HB1 _).trans (hb2.mono (HB1 _).size))
  clear C HB1 HX1 ho2 hb2
  obtain ⟨kind, lba, count, n, bs, key, res, keep⟩ := p
  simp only at *
  go_upto_region 2 with (first | (refine wpList_store_row rfl 25 _ _ rfl w.heap.size _ rfl rfl 25 _ hx2 (by kernel_rfl) rfl (row_one _ _ _ _ _ _ _ _ _) ?_))
  have hlt := lt_of_heap hx2
  have T3 : (w2.setRow w.heap.size #[.int .i64 kind, .int .i64 lba, .int .i64 count, .slice A n cap, .int .u64 key, .int .i64 res, .bool keep]).heap[w.heap.size]? = some (.cells #[.int .i64 kind, .int .i64 lba, .int .i64 count, .slice A n cap, .int .u64 key, .int .i64 res, .bool keep] 25 (0, 0)) := heap_setRow hx2 _
  have B3 : Below w.heap.size w (w2.setRow w.heap.size #[.int .i64 kind, .int .i64 lba, .int .i64 count, .slice A n cap, .int .u64 key, .int .i64 res, .bool keep]) := Only.below HBB.out (Only.setRow _) HBB.out.size (by simp)
  have O3 : (w2.setRow w.heap.size #[.int .i64 kind, .int .i64 lba, .int .i64 count, .slice A n cap, .int .u64 key, .int .i64 res, .bool keep]).ownsRow (w.heap.size + 1) 41 16 (.slice A n cap) n (u8s bs) := own_kept (own_lower HO2.out (by simp)) (Only.setRow _) (fun k hk hm => by simp at hm; have := (HO2.out.lt k hk).1; simp at this; omega)
  generalize World.setRow _ _ _ = w3 at *
  have HX3 := Lib.hid T3
  have HB3 := Lib.hid B3
  have HO3 := Lib.hid O3
  have hb1 : w.heap.size < w3.heap.size := lt_of_heap T3
  clear T3 B3 O3 hx2 HO2 HBB hlt
  obtain ⟨c0, c1, c2, c3, c4, c5, c6⟩ := row_cells HX3.out
  have HOK : Hid (¬ (1 ≤ kind ∧ kind ≤ 11 ∧ 0 ≤ lba ∧ lba ≤ 2147483647 ∧ 0 ≤ count ∧ count ≤ 65535 ∧ 0 ≤ res ∧ res ≤ 65535 ∧ n ≤ 8)) := HOK
  by_cases r0 : kind < 1
  · have e0 : decide (kind < 1) = true := decide_eq_true r0
    clear r0
    go_wp2_with (fail)
    go_ret2
    exact ⟨rfl, HB3.out⟩
  by_cases r1 : 11 < kind
  · have e0 : decide (kind < 1) = false := decide_eq_false r0
    have e1 : decide (11 < kind) = true := decide_eq_true r1
    clear r0 r1
    go_wp2_with (fail)
    go_ret2
    exact ⟨rfl, HB3.out⟩
  by_cases r2 : lba < 0
  · have e0 : decide (kind < 1) = false := decide_eq_false r0
    have e1 : decide (11 < kind) = false := decide_eq_false r1
    have e2 : decide (lba < 0) = true := decide_eq_true r2
    clear r0 r1 r2
    go_wp2_with (fail)
    go_ret2
    exact ⟨rfl, HB3.out⟩
  by_cases r3 : 2147483647 < lba
  · have e0 : decide (kind < 1) = false := decide_eq_false r0
    have e1 : decide (11 < kind) = false := decide_eq_false r1
    have e2 : decide (lba < 0) = false := decide_eq_false r2
    have e3 : decide (2147483647 < lba) = true := decide_eq_true r3
    clear r0 r1 r2 r3
    go_wp2_with (fail)
    go_ret2
    exact ⟨rfl, HB3.out⟩
  by_cases r4 : count < 0
  · have e0 : decide (kind < 1) = false := decide_eq_false r0
    have e1 : decide (11 < kind) = false := decide_eq_false r1
    have e2 : decide (lba < 0) = false := decide_eq_false r2
    have e3 : decide (2147483647 < lba) = false := decide_eq_false r3
    have e4 : decide (count < 0) = true := decide_eq_true r4
    clear r0 r1 r2 r3 r4
    go_wp2_with (fail)
    go_ret2
    exact ⟨rfl, HB3.out⟩
  by_cases r5 : 65535 < count
  · have e0 : decide (kind < 1) = false := decide_eq_false r0
    have e1 : decide (11 < kind) = false := decide_eq_false r1
    have e2 : decide (lba < 0) = false := decide_eq_false r2
    have e3 : decide (2147483647 < lba) = false := decide_eq_false r3
    have e4 : decide (count < 0) = false := decide_eq_false r4
    have e5 : decide (65535 < count) = true := decide_eq_true r5
    clear r0 r1 r2 r3 r4 r5
    go_wp2_with (fail)
    go_ret2
    exact ⟨rfl, HB3.out⟩
  by_cases r6 : res < 0
  · have e0 : decide (kind < 1) = false := decide_eq_false r0
    have e1 : decide (11 < kind) = false := decide_eq_false r1
    have e2 : decide (lba < 0) = false := decide_eq_false r2
    have e3 : decide (2147483647 < lba) = false := decide_eq_false r3
    have e4 : decide (count < 0) = false := decide_eq_false r4
    have e5 : decide (65535 < count) = false := decide_eq_false r5
    have e6 : decide (res < 0) = true := decide_eq_true r6
    clear r0 r1 r2 r3 r4 r5 r6
    go_wp2_with (fail)
    go_ret2
    exact ⟨rfl, HB3.out⟩
  by_cases r7 : 65535 < res
  · have e0 : decide (kind < 1) = false := decide_eq_false r0
    have e1 : decide (11 < kind) = false := decide_eq_false r1
    have e2 : decide (lba < 0) = false := decide_eq_false r2
    have e3 : decide (2147483647 < lba) = false := decide_eq_false r3
    have e4 : decide (count < 0) = false := decide_eq_false r4
    have e5 : decide (65535 < count) = false := decide_eq_false r5
    have e6 : decide (res < 0) = false := decide_eq_false r6
    have e7 : decide (65535 < res) = true := decide_eq_true r7
    clear r0 r1 r2 r3 r4 r5 r6 r7
    go_wp2_with (fail)
    go_ret2
    exact ⟨rfl, HB3.out⟩
  by_cases r8 : (8 : Int) < (n : Int)
  · have e0 : decide (kind < 1) = false := decide_eq_false r0
    have e1 : decide (11 < kind) = false := decide_eq_false r1
    have e2 : decide (lba < 0) = false := decide_eq_false r2
    have e3 : decide (2147483647 < lba) = false := decide_eq_false r3
    have e4 : decide (count < 0) = false := decide_eq_false r4
    have e5 : decide (65535 < count) = false := decide_eq_false r5
    have e6 : decide (res < 0) = false := decide_eq_false r6
    have e7 : decide (65535 < res) = false := decide_eq_false r7
    have e8 : decide ((8 : Int) < (n : Int)) = true := decide_eq_true r8
    clear r0 r1 r2 r3 r4 r5 r6 r7 r8
    go_wp2_with (fail)
    go_ret2
    exact ⟨rfl, HB3.out⟩
  exact absurd ⟨by omega, by omega, by omega, by omega, by omega, by omega, by omega, by omega, by omega⟩ HOK.out
set_option maxRecDepth 100000 in
set_option maxHeartbeats 16000000 in
theorem renc_ok (c : Cmd) (dv : Value) (w : World) (hs : Secs w dv c) (hl : c.n * 16 ≤ 140737488355328) (hok : c.plain.ok) :
    Calls Try.prog 10 #[c.val dv] w fun e w' => ∃ v, e = .returned (.tuple #[v, .int .i64 0]) ∧ w'.ownsRow w.heap.size 5 1 v c.plain.bytes.length (u8s c.plain.bytes) ∧ Below w.heap.size w w' := by
  have HB1 : ∀ o, Below w.heap.size w (w.alloc o) := fun o => balloc w o
  have HX1 : ∀ cs, (w.alloc (.cells cs 25)).heap[w.heap.size]? = some (.cells cs 25 (0, 0)) := fun cs => heap_alloc_new w _
  have HC : ∀ o, Calls Try.prog 15 #[c.val dv] (w.alloc o) fun e w' => ∃ dv', e = .returned (c.plain.val dv') ∧ Own w' (w.alloc o).heap.size dv' c.plain ∧ Below (w.alloc o).heap.size (w.alloc o) w' := fun o => rplain_any c dv (w.alloc o) (hs.below (HB1 o)) hl
  have C := Lib.hid HC
  clear HC hs
  generalize c.plain = p at *
  obtain ⟨kind, lba, count, n, bs, key, res, keep⟩ := c
  simp only at hl
  unfold Cmd.val at C ⊢
  go_enter Try.func10, Try.ntmps10
  go_wp2_with (fail)
  refine (C.out _).mono ?_
  rintro e w2 ⟨dv2, rfl, ho2, hb2⟩
  have hx2 := (hb2.block w.heap.size (by simp)).trans (HX1 _)
  obtain ⟨A, cap, rfl, _, _⟩ := own_form ho2
  obtain ⟨hk1, hk2, hl1, hl2, hc1, hc2, hr1, hr2, hn⟩ := hok
  have HO2 := Lib.hid ho2
  have HBB := Lib.hid ((HB1 _).trans (hb2.mono (HB1 _).size))
  clear C HB1 HX1 ho2 hb2
  obtain ⟨kind, lba, count, n, bs, key, res, keep⟩ := p
  simp only at *
  go_upto_region 2 with (first | (refine wpList_store_row rfl 25 _ _ rfl w.heap.size _ rfl rfl 25 _ hx2 (by kernel_rfl) rfl (row_one _ _ _ _ _ _ _ _ _) ?_))
  have hlt := lt_of_heap hx2
  have T3 : (w2.setRow w.heap.size #[.int .i64 kind, .int .i64 lba, .int .i64 count, .slice A n cap, .int .u64 key, .int .i64 res, .bool keep]).heap[w.heap.size]? = some (.cells #[.int .i64 kind, .int .i64 lba, .int .i64 count, .slice A n cap, .int .u64 key, .int .i64 res, .bool keep] 25 (0, 0)) := heap_setRow hx2 _
  have B3 : Below w.heap.size w (w2.setRow w.heap.size #[.int .i64 kind, .int .i64 lba, .int .i64 count, .slice A n cap, .int .u64 key, .int .i64 res, .bool keep]) := Only.below HBB.out (Only.setRow _) HBB.out.size (by simp)
  have O3 : (w2.setRow w.heap.size #[.int .i64 kind, .int .i64 lba, .int .i64 count, .slice A n cap, .int .u64 key, .int .i64 res, .bool keep]).ownsRow (w.heap.size + 1) 41 16 (.slice A n cap) n (u8s bs) := own_kept (own_lower HO2.out (by simp)) (Only.setRow _) (fun k hk hm => by simp at hm; have := (HO2.out.lt k hk).1; simp at this; omega)
  generalize World.setRow _ _ _ = w3 at *
  have HX3 := Lib.hid T3
  have HB3 := Lib.hid B3
  have HO3 := Lib.hid O3
  have hb1 : w.heap.size < w3.heap.size := lt_of_heap T3
  clear T3 B3 O3 hx2 HO2 HBB hlt
  obtain ⟨c0, c1, c2, c3, c4, c5, c6⟩ := row_cells HX3.out
  have e0 : decide (kind < 1) = false := decide_eq_false (by omega)
  have e1 : decide (11 < kind) = false := decide_eq_false (by omega)
  have e2 : decide (lba < 0) = false := decide_eq_false (by omega)
  have e3 : decide (2147483647 < lba) = false := decide_eq_false (by omega)
  have e4 : decide (count < 0) = false := decide_eq_false (by omega)
  have e5 : decide (65535 < count) = false := decide_eq_false (by omega)
  have e6 : decide (res < 0) = false := decide_eq_false (by omega)
  have e7 : decide (65535 < res) = false := decide_eq_false (by omega)
  have e8 : decide ((8 : Int) < (n : Int)) = false := decide_eq_false (by omega)
  have HK := Lib.hid (And.intro hk1 hk2)
  have HL := Lib.hid (And.intro hl1 hl2)
  have HC := Lib.hid (And.intro hc1 hc2)
  have HR := Lib.hid (And.intro hr1 hr2)
  clear hk1 hk2 hl1 hl2 hc1 hc2 hr1 hr2
  have hE4 : En w (w3.alloc (.cells #[] 5)) #[.int .i64 kind, .int .i64 lba, .int .i64 count, .slice A n cap, .int .u64 key, .int .i64 res, .bool keep] (.slice A n cap) n bs (.slice (some ⟨w3.heap.size, 0, none⟩) 0 0) [] :=
    ⟨World.ownsRow_lit (base := w.heap.size + 1) (e := 5) (size := 1) w3 #[] 0 (by omega) (by unfold maxLen; omega) rfl, (Below.heap_alloc _ _ _ hb1).trans HX3.out, own_below HO3.out (balloc _ _), HB3.out.alloc (by omega) _⟩
  have HE := Lib.hid hE4
  clear hE4 HX3 HB3 HO3
  have f0 := c0
  go_upto_region 4 with (fail)
  clear e0 e1 e2 e3 e4 e5 e6 e7 e8
  obtain ⟨hk1, hk2⟩ := HK.out
  obtain ⟨hl1, hl2⟩ := HL.out
  obtain ⟨hc1, hc2⟩ := HC.out
  obtain ⟨hr1, hr2⟩ := HR.out
  clear HK HL HC HR
  cases keep
  · go_wp2_with (fail)
    refine (put_1 HE.out kind (by simp [be1, be2, be4, be8])).mono ?_
    rintro e wp ⟨vp, rfl, hep⟩
    obtain ⟨c0, c1, c2, c3, c4, c5, c6⟩ := row_cells hep.box
    have hb1 := lt_of_heap hep.box
    have HEn := Lib.hid hep
    clear hep HE
    have HE := HEn
    clear HEn
    go_wp2_with (fail)
    refine (put_1 HE.out 0 (by simp [be1, be2, be4, be8])).mono ?_
    rintro e wp ⟨vp, rfl, hep⟩
    obtain ⟨c0, c1, c2, c3, c4, c5, c6⟩ := row_cells hep.box
    have hb1 := lt_of_heap hep.box
    have HEn := Lib.hid hep
    clear hep HE
    have HE := HEn
    clear HEn
    go_wp2_with (fail)
    refine (put_2 HE.out res (by simp [be1, be2, be4, be8])).mono ?_
    rintro e wp ⟨vp, rfl, hep⟩
    obtain ⟨c0, c1, c2, c3, c4, c5, c6⟩ := row_cells hep.box
    have hb1 := lt_of_heap hep.box
    have HEn := Lib.hid hep
    clear hep HE
    have HE := HEn
    clear HEn
    go_wp2_with (fail)
    refine (put_4 HE.out lba (by simp [be1, be2, be4, be8])).mono ?_
    rintro e wp ⟨vp, rfl, hep⟩
    obtain ⟨c0, c1, c2, c3, c4, c5, c6⟩ := row_cells hep.box
    have hb1 := lt_of_heap hep.box
    have HEn := Lib.hid hep
    clear hep HE
    have HE := HEn
    clear HEn
    go_wp2_with (fail)
    refine (put_2 HE.out count (by simp [be1, be2, be4, be8])).mono ?_
    rintro e wp ⟨vp, rfl, hep⟩
    obtain ⟨c0, c1, c2, c3, c4, c5, c6⟩ := row_cells hep.box
    have hb1 := lt_of_heap hep.box
    have HEn := Lib.hid hep
    clear hep HE
    have HE := HEn
    clear HEn
    go_wp2_with (fail)
    refine (put_2 HE.out (n : Int) (by simp [be1, be2, be4, be8])).mono ?_
    rintro e wp ⟨vp, rfl, hep⟩
    obtain ⟨c0, c1, c2, c3, c4, c5, c6⟩ := row_cells hep.box
    have hb1 := lt_of_heap hep.box
    have HEn := Lib.hid hep
    clear hep HE
    have HE := HEn
    clear HEn
    go_wp2_with (fail)
    refine (put_8 HE.out key (by simp [be1, be2, be4, be8])).mono ?_
    rintro e wp ⟨vp, rfl, hep⟩
    obtain ⟨c0, c1, c2, c3, c4, c5, c6⟩ := row_cells hep.box
    have hb1 := lt_of_heap hep.box
    have HEn := Lib.hid hep
    clear hep HE
    have HE := HEn
    clear HEn
    have hL : (([] : List Int) ++ be1 kind ++ be1 0 ++ be2 res ++ be4 lba ++ be2 count ++ be2 (n : Int) ++ be8 key) = [kind % 256, 0, res / 256 % 256, res % 256] ++ be4 lba ++ [count / 256 % 256, count % 256, 0, (n : Int)] ++ be8 key := by
      have q1 : (n : Int) / 256 % 256 = 0 := by omega
      have q2 : (n : Int) % 256 = n := by omega
      simp [be1, be2, q1, q2]
    have HE := Lib.hid (by have := HE.out; rw [hL] at this; exact this)
    clear hL
    go_wp2_with (fail)
    go_loopg [5, 6] (n) (fun q v5 v6 wr => ∃ i : Nat, i ≤ n ∧ v6 = .int .i64 (i : Int) ∧ q = n - i ∧ En w wr #[.int .i64 kind, .int .i64 lba, .int .i64 count, .slice A n cap, .int .u64 key, .int .i64 res, .bool false] (.slice A n cap) n bs v5 (([kind % 256, 0, res / 256 % 256, res % 256] ++ be4 lba ++ [count / 256 % 256, count % 256, 0, (n : Int)] ++ be8 key) ++ bs.take (i * 16)))
    case atStart => exact ⟨0, by omega, rfl, rfl, by simpa using HE.out⟩
    case round =>
      obtain ⟨i, hi, rfl, hq, he⟩ := hrel
      have HEi := Lib.hid he
      have HQ2 := Lib.hid hq
      obtain ⟨c0, c1, c2, c3, c4, c5, c6⟩ := row_cells he.box
      have hbl : bs.length = n * 16 := by have := he.secs.1; unfold u8s at this; simpa using this
      clear he hq
      by_cases hlt : i < n
      · go_wp2_with (fail)
        go_loopg [5, 7] (16) (fun q v5 v7 wq => ∃ k : Nat, k ≤ 16 ∧ v7 = .int .i64 (k : Int) ∧ q = 16 - k ∧ En w wq #[.int .i64 kind, .int .i64 lba, .int .i64 count, .slice A n cap, .int .u64 key, .int .i64 res, .bool false] (.slice A n cap) n bs v5 (([kind % 256, 0, res / 256 % 256, res % 256] ++ be4 lba ++ [count / 256 % 256, count % 256, 0, (n : Int)] ++ be8 key) ++ bs.take (i * 16 + k)))
        case atStart => exact ⟨0, by omega, rfl, rfl, HEi.out⟩
        case round =>
          obtain ⟨k, hk, rfl, hq, he⟩ := hrel
          have HEk := Lib.hid he
          have HQ3 := Lib.hid hq
          clear he hq c0 c1 c2 c3 c4 c5 c6
          obtain ⟨c0, c1, c2, c3, c4, c5, c6⟩ := row_cells HEk.out.box
          have hb1 := lt_of_heap HEk.out.box
          by_cases hlk : k < 16
          · obtain ⟨r2, rfl, _, hr2⟩ := own_addr HEk.out.secs (by omega)
            have hj : i * 16 + k < bs.length := by omega
            obtain ⟨z, hz⟩ : ∃ z, bs[i * 16 + k]? = some z := ⟨_, List.getElem?_eq_getElem hj⟩
            have hcz : wr.cell? ⟨r2, i * 16 + k, none⟩ = some (.int .u8 z) := by
              rw [own_cell HEk.out.secs (by omega), u8s, List.getElem?_map, hz]; rfl
            obtain ⟨v', w', hr, he'⟩ := HEk.out.app [z] 1 rfl (by simp [be4, be8]; omega)
            have HR := Lib.hid hr
            have HE' := Lib.hid he'
            have HZ := Lib.hid hz
            clear hr he' hz hj
            go_wp2_with (first | (at_builtin; refine wpList_append_ran rfl (.tmp 100) (.tmp 108) 26 rfl _ _ rfl rfl _ _ HR.out ?_))
            go_roundg (16 - (k + 1))
            case measure => have := HQ3.out; omega
            case rel => exact ⟨k + 1, by omega, by go_num, rfl, by rw [show i * 16 + (k + 1) = (i * 16 + k) + 1 by omega, List.take_add_one, HZ.out, ← List.append_assoc]; exact HE'.out⟩
          · obtain rfl : k = 16 := by omega
            have hE := HEk.out
            rw [show i * 16 + 16 = (i + 1) * 16 by omega] at hE
            have HF := Lib.hid hE
            clear hE HEk
            go_wp2_with (fail)
            go_roundg (n - (i + 1))
            case measure => have := HQ2.out; omega
            case rel => exact ⟨i + 1, by omega, by go_num, rfl, HF.out⟩
      · obtain rfl : i = n := by omega
        have hE := HEi.out
        rw [← hbl, List.take_length] at hE
        have HF := Lib.hid hE
        clear hE HEi
        go_wp2_with (fail)
        go_ret2
        exact ⟨_, rfl, own_lower HF.out.row (by omega), HF.out.below⟩
  · go_wp2_with (fail)
    refine (put_1 HE.out kind (by simp [be1, be2, be4, be8])).mono ?_
    rintro e wp ⟨vp, rfl, hep⟩
    obtain ⟨c0, c1, c2, c3, c4, c5, c6⟩ := row_cells hep.box
    have hb1 := lt_of_heap hep.box
    have HEn := Lib.hid hep
    clear hep HE
    have HE := HEn
    clear HEn
    go_wp2_with (fail)
    refine (put_1 HE.out 1 (by simp [be1, be2, be4, be8])).mono ?_
    rintro e wp ⟨vp, rfl, hep⟩
    obtain ⟨c0, c1, c2, c3, c4, c5, c6⟩ := row_cells hep.box
    have hb1 := lt_of_heap hep.box
    have HEn := Lib.hid hep
    clear hep HE
    have HE := HEn
    clear HEn
    go_wp2_with (fail)
    refine (put_2 HE.out res (by simp [be1, be2, be4, be8])).mono ?_
    rintro e wp ⟨vp, rfl, hep⟩
    obtain ⟨c0, c1, c2, c3, c4, c5, c6⟩ := row_cells hep.box
    have hb1 := lt_of_heap hep.box
    have HEn := Lib.hid hep
    clear hep HE
    have HE := HEn
    clear HEn
    go_wp2_with (fail)
    refine (put_4 HE.out lba (by simp [be1, be2, be4, be8])).mono ?_
    rintro e wp ⟨vp, rfl, hep⟩
    obtain ⟨c0, c1, c2, c3, c4, c5, c6⟩ := row_cells hep.box
    have hb1 := lt_of_heap hep.box
    have HEn := Lib.hid hep
    clear hep HE
    have HE := HEn
    clear HEn
    go_wp2_with (fail)
    refine (put_2 HE.out count (by simp [be1, be2, be4, be8])).mono ?_
    rintro e wp ⟨vp, rfl, hep⟩
    obtain ⟨c0, c1, c2, c3, c4, c5, c6⟩ := row_cells hep.box
    have hb1 := lt_of_heap hep.box
    have HEn := Lib.hid hep
    clear hep HE
    have HE := HEn
    clear HEn
    go_wp2_with (fail)
    refine (put_2 HE.out (n : Int) (by simp [be1, be2, be4, be8])).mono ?_
    rintro e wp ⟨vp, rfl, hep⟩
    obtain ⟨c0, c1, c2, c3, c4, c5, c6⟩ := row_cells hep.box
    have hb1 := lt_of_heap hep.box
    have HEn := Lib.hid hep
    clear hep HE
    have HE := HEn
    clear HEn
    go_wp2_with (fail)
    refine (put_8 HE.out key (by simp [be1, be2, be4, be8])).mono ?_
    rintro e wp ⟨vp, rfl, hep⟩
    obtain ⟨c0, c1, c2, c3, c4, c5, c6⟩ := row_cells hep.box
    have hb1 := lt_of_heap hep.box
    have HEn := Lib.hid hep
    clear hep HE
    have HE := HEn
    clear HEn
    have hL : (([] : List Int) ++ be1 kind ++ be1 1 ++ be2 res ++ be4 lba ++ be2 count ++ be2 (n : Int) ++ be8 key) = [kind % 256, 1, res / 256 % 256, res % 256] ++ be4 lba ++ [count / 256 % 256, count % 256, 0, (n : Int)] ++ be8 key := by
      have q1 : (n : Int) / 256 % 256 = 0 := by omega
      have q2 : (n : Int) % 256 = n := by omega
      simp [be1, be2, q1, q2]
    have HE := Lib.hid (by have := HE.out; rw [hL] at this; exact this)
    clear hL
    go_wp2_with (fail)
    go_loopg [5, 6] (n) (fun q v5 v6 wr => ∃ i : Nat, i ≤ n ∧ v6 = .int .i64 (i : Int) ∧ q = n - i ∧ En w wr #[.int .i64 kind, .int .i64 lba, .int .i64 count, .slice A n cap, .int .u64 key, .int .i64 res, .bool true] (.slice A n cap) n bs v5 (([kind % 256, 1, res / 256 % 256, res % 256] ++ be4 lba ++ [count / 256 % 256, count % 256, 0, (n : Int)] ++ be8 key) ++ bs.take (i * 16)))
    case atStart => exact ⟨0, by omega, rfl, rfl, by simpa using HE.out⟩
    case round =>
      obtain ⟨i, hi, rfl, hq, he⟩ := hrel
      have HEi := Lib.hid he
      have HQ2 := Lib.hid hq
      obtain ⟨c0, c1, c2, c3, c4, c5, c6⟩ := row_cells he.box
      have hbl : bs.length = n * 16 := by have := he.secs.1; unfold u8s at this; simpa using this
      clear he hq
      by_cases hlt : i < n
      · go_wp2_with (fail)
        go_loopg [5, 7] (16) (fun q v5 v7 wq => ∃ k : Nat, k ≤ 16 ∧ v7 = .int .i64 (k : Int) ∧ q = 16 - k ∧ En w wq #[.int .i64 kind, .int .i64 lba, .int .i64 count, .slice A n cap, .int .u64 key, .int .i64 res, .bool true] (.slice A n cap) n bs v5 (([kind % 256, 1, res / 256 % 256, res % 256] ++ be4 lba ++ [count / 256 % 256, count % 256, 0, (n : Int)] ++ be8 key) ++ bs.take (i * 16 + k)))
        case atStart => exact ⟨0, by omega, rfl, rfl, HEi.out⟩
        case round =>
          obtain ⟨k, hk, rfl, hq, he⟩ := hrel
          have HEk := Lib.hid he
          have HQ3 := Lib.hid hq
          clear he hq c0 c1 c2 c3 c4 c5 c6
          obtain ⟨c0, c1, c2, c3, c4, c5, c6⟩ := row_cells HEk.out.box
          have hb1 := lt_of_heap HEk.out.box
          by_cases hlk : k < 16
          · obtain ⟨r2, rfl, _, hr2⟩ := own_addr HEk.out.secs (by omega)
            have hj : i * 16 + k < bs.length := by omega
            obtain ⟨z, hz⟩ : ∃ z, bs[i * 16 + k]? = some z := ⟨_, List.getElem?_eq_getElem hj⟩
            have hcz : wr.cell? ⟨r2, i * 16 + k, none⟩ = some (.int .u8 z) := by
              rw [own_cell HEk.out.secs (by omega), u8s, List.getElem?_map, hz]; rfl
            obtain ⟨v', w', hr, he'⟩ := HEk.out.app [z] 1 rfl (by simp [be4, be8]; omega)
            have HR := Lib.hid hr
            have HE' := Lib.hid he'
            have HZ := Lib.hid hz
            clear hr he' hz hj
            go_wp2_with (first | (at_builtin; refine wpList_append_ran rfl (.tmp 100) (.tmp 108) 26 rfl _ _ rfl rfl _ _ HR.out ?_))
            go_roundg (16 - (k + 1))
            case measure => have := HQ3.out; omega
            case rel => exact ⟨k + 1, by omega, by go_num, rfl, by rw [show i * 16 + (k + 1) = (i * 16 + k) + 1 by omega, List.take_add_one, HZ.out, ← List.append_assoc]; exact HE'.out⟩
          · obtain rfl : k = 16 := by omega
            have hE := HEk.out
            rw [show i * 16 + 16 = (i + 1) * 16 by omega] at hE
            have HF := Lib.hid hE
            clear hE HEk
            go_wp2_with (fail)
            go_roundg (n - (i + 1))
            case measure => have := HQ2.out; omega
            case rel => exact ⟨i + 1, by omega, by go_num, rfl, HF.out⟩
      · obtain rfl : i = n := by omega
        have hE := HEi.out
        rw [← hbl, List.take_length] at hE
        have HF := Lib.hid hE
        clear hE HEi
        go_wp2_with (fail)
        go_ret2
        exact ⟨_, rfl, own_lower HF.out.row (by omega), HF.out.below⟩
end Go.Proofs.Ytlkibkemmmppcaa.Wd
