/- The walk of CdbRanges. -/
import Derived.Test.YtlkibkemmmppcaaAwk
import Derived.Test.YtlkibkemmmppcaaChk

namespace Go.Proofs.Ytlkibkemmmppcaa.Wd
open Go.RowKit
set_option linter.unusedVariables false
set_option linter.unusedSimpArgs false
def noughts (n : Nat) : List Int := List.replicate (n * 16) 0
theorem run_mk (n : Nat) (hn : n ≤ 200) (W : World) : (Instr.makeSlice 22 (.int .u8 (n : Int)) (.int .u8 (n : Int))).run Try.prog W = .ok (.slice (some ⟨W.heap.size, 0, none⟩) n n) (W.alloc (.cells (u8s (noughts n)).toArray 41)) := by
  obtain ⟨i0, hi0, hz0, hz1, hz2⟩ := info_parts info41
  have h := run_make (P := Try.prog) (w := W) 22 41 i0 _ Try.underlying22 hi0 hz0 .u8 .u8 (n : Int) (n : Int) (by omega) (by omega) (by rw [hz2]; omega) (by omega)
  rw [h, hz1]
  simp only [Int.toNat_natCast]
  have e : madeCells (Value.agg (Array.replicate 16 (.int .u8 0))).cells (n * 16) = (u8s (noughts n)).toArray := by
    apply Array.ext
    · simp [madeCells, u8s, noughts]
    · intro i h1 h2
      have hz : (Value.agg (Array.replicate 16 (.int .u8 0))).cells = Array.replicate 16 (.int .u8 0) := rfl
      simp [madeCells, u8s, noughts, hz]
      have : i % 16 < 16 := Nat.mod_lt _ (by omega)
      simp [this]
  rw [e]
set_option maxRecDepth 100000 in
set_option maxHeartbeats 4000000 in
theorem ranges_0 (kk lba cnt nn cap : Int) (w : World) (hr : Int.tmod kk 3 = 0) (m : Nat) (hm : Int.tmod nn 12 = (m : Int)) (hml : m < 12) (hc : (Lit.int .i64 cap).wf = true) :
    Calls Try.prog 7 #[.int .u8 kk, .int .i64 lba, .int .i64 cnt, .int .u8 nn, .int .i64 cap] w fun e w' => e = .returned (.bool true) ∧ Below w.heap.size w w' := by
  have hc1 : -9223372036854775808 ≤ cap ∧ cap ≤ 9223372036854775807 := wf_i64 hc
  have HCAP := Lib.hid hc
  clear hc
  have hX : (w.alloc (.cells #[.int .i64 2, .int .i64 lba, .int .i64 cnt, .slice none 0 0, .int .u64 0, .int .i64 0, .bool false] 25)).heap[w.heap.size]? = some (.cells #[.int .i64 2, .int .i64 lba, .int .i64 cnt, .slice none 0 0, .int .u64 0, .int .i64 0, .bool false] 25 (0, 0)) := heap_alloc_new w _
  have hB : Below w.heap.size w (w.alloc (.cells #[.int .i64 2, .int .i64 lba, .int .i64 cnt, .slice none 0 0, .int .u64 0, .int .i64 0, .bool false] 25)) := balloc w _
  have hS : Rd (w.alloc (.cells #[.int .i64 2, .int .i64 lba, .int .i64 cnt, .slice none 0 0, .int .u64 0, .int .i64 0, .bool false] 25)) (.slice none 0 0) 0 16 (u8s []) := Rd.nil _ 16
  go_enter Try.func7, Try.ntmps7
  go_upto_region 9 with (fail)
  generalize hW : w.alloc (.cells #[.int .i64 2, .int .i64 lba, .int .i64 cnt, .slice none 0 0, .int .u64 0, .int .i64 0, .bool false] 25) = w1 at *
  clear hW
  go_cut [13] (fun v13 wx => v13 = .bool (decide (inRun cnt lba cap)) ∧ w1 = wx)
  case first =>
    as_aux_lemma =>
      clear hr hm
      by_cases r0 : cnt < 1
      · have hv : decide (inRun cnt lba cap) = false := decide_eq_false (fun c => by obtain ⟨x1, x2, x3, x4, x5⟩ := c; omega)
        have HV := Lib.hid hv
        have q0 : decide (1 ≤ cnt) = false := decide_eq_false (by omega)
        clear hv r0
        go_wp2_with (fail)
        go_meet
        exact ⟨by rw [HV.out], rfl⟩
      by_cases r1 : 8 < cnt
      · have hv : decide (inRun cnt lba cap) = false := decide_eq_false (fun c => by obtain ⟨x1, x2, x3, x4, x5⟩ := c; omega)
        have HV := Lib.hid hv
        have q0 : decide (1 ≤ cnt) = true := decide_eq_true (by omega)
        have q1 : decide (cnt ≤ 8) = false := decide_eq_false (by omega)
        clear hv r0 r1
        go_wp2_with (fail)
        go_meet
        exact ⟨by rw [HV.out], rfl⟩
      by_cases r2 : lba < 0
      · have hv : decide (inRun cnt lba cap) = false := decide_eq_false (fun c => by obtain ⟨x1, x2, x3, x4, x5⟩ := c; omega)
        have HV := Lib.hid hv
        have q0 : decide (1 ≤ cnt) = true := decide_eq_true (by omega)
        have q1 : decide (cnt ≤ 8) = true := decide_eq_true (by omega)
        have q2 : decide (0 ≤ lba) = false := decide_eq_false (by omega)
        clear hv r0 r1 r2
        go_wp2_with (fail)
        go_meet
        exact ⟨by rw [HV.out], rfl⟩
      by_cases r3 : cap < cnt
      · have hv : decide (inRun cnt lba cap) = false := decide_eq_false (fun c => by obtain ⟨x1, x2, x3, x4, x5⟩ := c; omega)
        have HV := Lib.hid hv
        have q0 : decide (1 ≤ cnt) = true := decide_eq_true (by omega)
        have q1 : decide (cnt ≤ 8) = true := decide_eq_true (by omega)
        have q2 : decide (0 ≤ lba) = true := decide_eq_true (by omega)
        have q3 : decide (cnt ≤ cap) = false := decide_eq_false (by omega)
        clear hv r0 r1 r2 r3
        go_wp2_with (fail)
        go_meet
        exact ⟨by rw [HV.out], rfl⟩
      by_cases r4 : cap - cnt < lba
      · have hv : decide (inRun cnt lba cap) = false := decide_eq_false (fun c => by obtain ⟨x1, x2, x3, x4, x5⟩ := c; omega)
        have HV := Lib.hid hv
        have q0 : decide (1 ≤ cnt) = true := decide_eq_true (by omega)
        have q1 : decide (cnt ≤ 8) = true := decide_eq_true (by omega)
        have q2 : decide (0 ≤ lba) = true := decide_eq_true (by omega)
        have q3 : decide (cnt ≤ cap) = true := decide_eq_true (by omega)
        have q4 : decide (lba ≤ cap - cnt) = false := decide_eq_false (by omega)
        have hw2 : wrap64 (cap - cnt) = cap - cnt := by unfold wrap64; omega
        have hw3 : IntKind.i64.wrap (cap - cnt) = cap - cnt := wrap_i64 (by omega) (by omega)
        clear hv r0 r1 r2 r3 r4
        go_wp2_with (fail)
        go_meet
        exact ⟨by rw [HV.out], rfl⟩
      have hv : decide (inRun cnt lba cap) = true := decide_eq_true ⟨by omega, by omega, by omega, by omega, by omega⟩
      have HV := Lib.hid hv
      have q0 : decide (1 ≤ cnt) = true := decide_eq_true (by omega)
      have q1 : decide (cnt ≤ 8) = true := decide_eq_true (by omega)
      have q2 : decide (0 ≤ lba) = true := decide_eq_true (by omega)
      have q3 : decide (cnt ≤ cap) = true := decide_eq_true (by omega)
      have q4 : decide (lba ≤ cap - cnt) = true := decide_eq_true (by omega)
      have hw2 : wrap64 (cap - cnt) = cap - cnt := by unfold wrap64; omega
      have hw3 : IntKind.i64.wrap (cap - cnt) = cap - cnt := wrap_i64 (by omega) (by omega)
      clear hv r0 r1 r2 r3 r4
      go_wp2_with (fail)
      go_meet
      exact ⟨by rw [HV.out], rfl⟩
  case rest =>
    as_aux_lemma =>
      obtain ⟨rfl, rfl⟩ := hcut
      go_wp2_with (fail)
      refine (awake_any _).mono ?_
      rintro e w2 ⟨rfl, hb2⟩
      have hX2 := (hb2.block _ (lt_of_heap hX)).trans hX
      have HS2 := Lib.hid (hS.below hb2)
      have HB2 := Lib.hid (hB.trans (hb2.mono hB.size))
      obtain ⟨c0, c1, c2, c3, c4, c5, c6⟩ := row_cells hX2
      clear hb2 hX hS hB
      have C := check_any ⟨2, lba, cnt, 0, [], 0, 0, false⟩ (.slice none 0 0) cap w2 HS2.out HCAP.out
      have hv : (Cmd.mk 2 lba cnt 0 [] 0 0 false).chk cap = runE cnt lba cap := rfl
      rw [hv] at C
      have HC := Lib.hid C
      clear C hv
      go_wp2_with (fail)
      refine HC.out.mono ?_
      rintro e w3 ⟨rfl, hb3⟩
      have HB3 := Lib.hid (HB2.out.trans (hb3.mono HB2.out.size))
      clear hb3
      have hd : (runE cnt lba cap == 0) = decide (inRun cnt lba cap) := by
        unfold runE
        by_cases h : inRun cnt lba cap
        · rw [if_pos h, decide_eq_true h]; rfl
        · rw [if_neg h, decide_eq_false h]; rfl
      generalize runE cnt lba cap = re at *
      generalize decide (inRun cnt lba cap) = B at *
      cases B
      all_goals
        go_wp2_with (fail)
        go_ret
        exact ⟨rfl, HB3.out⟩
set_option maxRecDepth 100000 in
set_option maxHeartbeats 4000000 in
theorem ranges_1 (kk lba cnt nn cap : Int) (w : World) (hr : Int.tmod kk 3 = 1) (m : Nat) (hm : Int.tmod nn 12 = (m : Int)) (hml : m < 12) (hc : (Lit.int .i64 cap).wf = true) :
    Calls Try.prog 7 #[.int .u8 kk, .int .i64 lba, .int .i64 cnt, .int .u8 nn, .int .i64 cap] w fun e w' => e = .returned (.bool true) ∧ Below w.heap.size w w' := by
  have hc1 : -9223372036854775808 ≤ cap ∧ cap ≤ 9223372036854775807 := wf_i64 hc
  have HCAP := Lib.hid hc
  clear hc
  have hX : (w.alloc (.cells #[.int .i64 6, .int .i64 lba, .int .i64 cnt, .slice none 0 0, .int .u64 0, .int .i64 0, .bool false] 25)).heap[w.heap.size]? = some (.cells #[.int .i64 6, .int .i64 lba, .int .i64 cnt, .slice none 0 0, .int .u64 0, .int .i64 0, .bool false] 25 (0, 0)) := heap_alloc_new w _
  have hB : Below w.heap.size w (w.alloc (.cells #[.int .i64 6, .int .i64 lba, .int .i64 cnt, .slice none 0 0, .int .u64 0, .int .i64 0, .bool false] 25)) := balloc w _
  have hS : Rd (w.alloc (.cells #[.int .i64 6, .int .i64 lba, .int .i64 cnt, .slice none 0 0, .int .u64 0, .int .i64 0, .bool false] 25)) (.slice none 0 0) 0 16 (u8s []) := Rd.nil _ 16
  go_enter Try.func7, Try.ntmps7
  go_upto_region 9 with (fail)
  generalize hW : w.alloc (.cells #[.int .i64 6, .int .i64 lba, .int .i64 cnt, .slice none 0 0, .int .u64 0, .int .i64 0, .bool false] 25) = w1 at *
  clear hW
  go_cut [13] (fun v13 wx => v13 = .bool (decide (inRun cnt lba cap)) ∧ w1 = wx)
  case first =>
    as_aux_lemma =>
      clear hr hm
      by_cases r0 : cnt < 1
      · have hv : decide (inRun cnt lba cap) = false := decide_eq_false (fun c => by obtain ⟨x1, x2, x3, x4, x5⟩ := c; omega)
        have HV := Lib.hid hv
        have q0 : decide (1 ≤ cnt) = false := decide_eq_false (by omega)
        clear hv r0
        go_wp2_with (fail)
        go_meet
        exact ⟨by rw [HV.out], rfl⟩
      by_cases r1 : 8 < cnt
      · have hv : decide (inRun cnt lba cap) = false := decide_eq_false (fun c => by obtain ⟨x1, x2, x3, x4, x5⟩ := c; omega)
        have HV := Lib.hid hv
        have q0 : decide (1 ≤ cnt) = true := decide_eq_true (by omega)
        have q1 : decide (cnt ≤ 8) = false := decide_eq_false (by omega)
        clear hv r0 r1
        go_wp2_with (fail)
        go_meet
        exact ⟨by rw [HV.out], rfl⟩
      by_cases r2 : lba < 0
      · have hv : decide (inRun cnt lba cap) = false := decide_eq_false (fun c => by obtain ⟨x1, x2, x3, x4, x5⟩ := c; omega)
        have HV := Lib.hid hv
        have q0 : decide (1 ≤ cnt) = true := decide_eq_true (by omega)
        have q1 : decide (cnt ≤ 8) = true := decide_eq_true (by omega)
        have q2 : decide (0 ≤ lba) = false := decide_eq_false (by omega)
        clear hv r0 r1 r2
        go_wp2_with (fail)
        go_meet
        exact ⟨by rw [HV.out], rfl⟩
      by_cases r3 : cap < cnt
      · have hv : decide (inRun cnt lba cap) = false := decide_eq_false (fun c => by obtain ⟨x1, x2, x3, x4, x5⟩ := c; omega)
        have HV := Lib.hid hv
        have q0 : decide (1 ≤ cnt) = true := decide_eq_true (by omega)
        have q1 : decide (cnt ≤ 8) = true := decide_eq_true (by omega)
        have q2 : decide (0 ≤ lba) = true := decide_eq_true (by omega)
        have q3 : decide (cnt ≤ cap) = false := decide_eq_false (by omega)
        clear hv r0 r1 r2 r3
        go_wp2_with (fail)
        go_meet
        exact ⟨by rw [HV.out], rfl⟩
      by_cases r4 : cap - cnt < lba
      · have hv : decide (inRun cnt lba cap) = false := decide_eq_false (fun c => by obtain ⟨x1, x2, x3, x4, x5⟩ := c; omega)
        have HV := Lib.hid hv
        have q0 : decide (1 ≤ cnt) = true := decide_eq_true (by omega)
        have q1 : decide (cnt ≤ 8) = true := decide_eq_true (by omega)
        have q2 : decide (0 ≤ lba) = true := decide_eq_true (by omega)
        have q3 : decide (cnt ≤ cap) = true := decide_eq_true (by omega)
        have q4 : decide (lba ≤ cap - cnt) = false := decide_eq_false (by omega)
        have hw2 : wrap64 (cap - cnt) = cap - cnt := by unfold wrap64; omega
        have hw3 : IntKind.i64.wrap (cap - cnt) = cap - cnt := wrap_i64 (by omega) (by omega)
        clear hv r0 r1 r2 r3 r4
        go_wp2_with (fail)
        go_meet
        exact ⟨by rw [HV.out], rfl⟩
      have hv : decide (inRun cnt lba cap) = true := decide_eq_true ⟨by omega, by omega, by omega, by omega, by omega⟩
      have HV := Lib.hid hv
      have q0 : decide (1 ≤ cnt) = true := decide_eq_true (by omega)
      have q1 : decide (cnt ≤ 8) = true := decide_eq_true (by omega)
      have q2 : decide (0 ≤ lba) = true := decide_eq_true (by omega)
      have q3 : decide (cnt ≤ cap) = true := decide_eq_true (by omega)
      have q4 : decide (lba ≤ cap - cnt) = true := decide_eq_true (by omega)
      have hw2 : wrap64 (cap - cnt) = cap - cnt := by unfold wrap64; omega
      have hw3 : IntKind.i64.wrap (cap - cnt) = cap - cnt := wrap_i64 (by omega) (by omega)
      clear hv r0 r1 r2 r3 r4
      go_wp2_with (fail)
      go_meet
      exact ⟨by rw [HV.out], rfl⟩
  case rest =>
    as_aux_lemma =>
      obtain ⟨rfl, rfl⟩ := hcut
      go_wp2_with (fail)
      refine (awake_any _).mono ?_
      rintro e w2 ⟨rfl, hb2⟩
      have hX2 := (hb2.block _ (lt_of_heap hX)).trans hX
      have HS2 := Lib.hid (hS.below hb2)
      have HB2 := Lib.hid (hB.trans (hb2.mono hB.size))
      obtain ⟨c0, c1, c2, c3, c4, c5, c6⟩ := row_cells hX2
      clear hb2 hX hS hB
      have C := check_any ⟨6, lba, cnt, 0, [], 0, 0, false⟩ (.slice none 0 0) cap w2 HS2.out HCAP.out
      have hv : (Cmd.mk 6 lba cnt 0 [] 0 0 false).chk cap = runE cnt lba cap := rfl
      rw [hv] at C
      have HC := Lib.hid C
      clear C hv
      go_wp2_with (fail)
      refine HC.out.mono ?_
      rintro e w3 ⟨rfl, hb3⟩
      have HB3 := Lib.hid (HB2.out.trans (hb3.mono HB2.out.size))
      clear hb3
      have hd : (runE cnt lba cap == 0) = decide (inRun cnt lba cap) := by
        unfold runE
        by_cases h : inRun cnt lba cap
        · rw [if_pos h, decide_eq_true h]; rfl
        · rw [if_neg h, decide_eq_false h]; rfl
      generalize runE cnt lba cap = re at *
      generalize decide (inRun cnt lba cap) = B at *
      cases B
      all_goals
        go_wp2_with (fail)
        go_ret
        exact ⟨rfl, HB3.out⟩
set_option maxRecDepth 100000 in
set_option maxHeartbeats 4000000 in
theorem ranges_2 (kk lba cnt nn cap : Int) (w : World) (hr : Int.tmod kk 3 = 2) (m : Nat) (hm : Int.tmod nn 12 = (m : Int)) (hml : m < 12) (hc : (Lit.int .i64 cap).wf = true) :
    Calls Try.prog 7 #[.int .u8 kk, .int .i64 lba, .int .i64 cnt, .int .u8 nn, .int .i64 cap] w fun e w' => e = .returned (.bool true) ∧ Below w.heap.size w w' := by
  have hc1 : -9223372036854775808 ≤ cap ∧ cap ≤ 9223372036854775807 := wf_i64 hc
  have HCAP := Lib.hid hc
  clear hc
  have hmk := run_mk m (by omega)
  have hX : ((w.alloc (.cells #[.int .i64 3, .int .i64 lba, .int .i64 0, .slice (some ⟨w.heap.size + 1, 0, none⟩) m m, .int .u64 0, .int .i64 0, .bool false] 25)).alloc (.cells (u8s (noughts m)).toArray 41)).heap[w.heap.size]? = some (.cells #[.int .i64 3, .int .i64 lba, .int .i64 0, .slice (some ⟨w.heap.size + 1, 0, none⟩) m m, .int .u64 0, .int .i64 0, .bool false] 25 (0, 0)) := (Below.heap_alloc _ _ _ (by simp)).trans (heap_alloc_new w _)
  have hB : Below w.heap.size w ((w.alloc (.cells #[.int .i64 3, .int .i64 lba, .int .i64 0, .slice (some ⟨w.heap.size + 1, 0, none⟩) m m, .int .u64 0, .int .i64 0, .bool false] 25)).alloc (.cells (u8s (noughts m)).toArray 41)) := (balloc w _).alloc (by simp) _
  have hS : Rd ((w.alloc (.cells #[.int .i64 3, .int .i64 lba, .int .i64 0, .slice (some ⟨w.heap.size + 1, 0, none⟩) m m, .int .u64 0, .int .i64 0, .bool false] 25)).alloc (.cells (u8s (noughts m)).toArray 41)) (.slice (some ⟨w.heap.size + 1, 0, none⟩) m m) m 16 (u8s (noughts m)) := by
    have e : w.heap.size + 1 = (w.alloc (.cells #[.int .i64 3, .int .i64 lba, .int .i64 0, .slice (some ⟨w.heap.size + 1, 0, none⟩) m m, .int .u64 0, .int .i64 0, .bool false] 25)).heap.size := by simp
    have h := World.ownsRow_lit (base := 0) (e := 41) (size := 16) (w.alloc (.cells #[.int .i64 3, .int .i64 lba, .int .i64 0, .slice (some ⟨w.heap.size + 1, 0, none⟩) m m, .int .u64 0, .int .i64 0, .bool false] 25)) (u8s (noughts m)).toArray m (by omega) (by unfold maxLen; omega) (by simp [u8s, noughts])
    rw [← e] at h
    simpa using Rd.of_own h
  go_enter Try.func7, Try.ntmps7
  go_upto_region 9 with (fail)
  generalize hW : (w.alloc (.cells #[.int .i64 3, .int .i64 lba, .int .i64 0, .slice (some ⟨w.heap.size + 1, 0, none⟩) m m, .int .u64 0, .int .i64 0, .bool false] 25)).alloc (.cells (u8s (noughts m)).toArray 41) = w1 at *
  clear hW
  go_cut [13] (fun v13 wx => v13 = .bool (decide (inRun (m : Int) lba cap)) ∧ w1 = wx)
  case first =>
    as_aux_lemma =>
      clear hr hm
      by_cases r0 : (m : Int) < 1
      · have hv : decide (inRun (m : Int) lba cap) = false := decide_eq_false (fun c => by obtain ⟨x1, x2, x3, x4, x5⟩ := c; omega)
        have HV := Lib.hid hv
        have q0 : decide (1 ≤ (m : Int)) = false := decide_eq_false (by omega)
        clear hv r0
        go_wp2_with (fail)
        go_meet
        exact ⟨by rw [HV.out], rfl⟩
      by_cases r1 : 8 < (m : Int)
      · have hv : decide (inRun (m : Int) lba cap) = false := decide_eq_false (fun c => by obtain ⟨x1, x2, x3, x4, x5⟩ := c; omega)
        have HV := Lib.hid hv
        have q0 : decide (1 ≤ (m : Int)) = true := decide_eq_true (by omega)
        have q1 : decide ((m : Int) ≤ 8) = false := decide_eq_false (by omega)
        clear hv r0 r1
        go_wp2_with (fail)
        go_meet
        exact ⟨by rw [HV.out], rfl⟩
      by_cases r2 : lba < 0
      · have hv : decide (inRun (m : Int) lba cap) = false := decide_eq_false (fun c => by obtain ⟨x1, x2, x3, x4, x5⟩ := c; omega)
        have HV := Lib.hid hv
        have q0 : decide (1 ≤ (m : Int)) = true := decide_eq_true (by omega)
        have q1 : decide ((m : Int) ≤ 8) = true := decide_eq_true (by omega)
        have q2 : decide (0 ≤ lba) = false := decide_eq_false (by omega)
        clear hv r0 r1 r2
        go_wp2_with (fail)
        go_meet
        exact ⟨by rw [HV.out], rfl⟩
      by_cases r3 : cap < (m : Int)
      · have hv : decide (inRun (m : Int) lba cap) = false := decide_eq_false (fun c => by obtain ⟨x1, x2, x3, x4, x5⟩ := c; omega)
        have HV := Lib.hid hv
        have q0 : decide (1 ≤ (m : Int)) = true := decide_eq_true (by omega)
        have q1 : decide ((m : Int) ≤ 8) = true := decide_eq_true (by omega)
        have q2 : decide (0 ≤ lba) = true := decide_eq_true (by omega)
        have q3 : decide ((m : Int) ≤ cap) = false := decide_eq_false (by omega)
        clear hv r0 r1 r2 r3
        go_wp2_with (fail)
        go_meet
        exact ⟨by rw [HV.out], rfl⟩
      by_cases r4 : cap - (m : Int) < lba
      · have hv : decide (inRun (m : Int) lba cap) = false := decide_eq_false (fun c => by obtain ⟨x1, x2, x3, x4, x5⟩ := c; omega)
        have HV := Lib.hid hv
        have q0 : decide (1 ≤ (m : Int)) = true := decide_eq_true (by omega)
        have q1 : decide ((m : Int) ≤ 8) = true := decide_eq_true (by omega)
        have q2 : decide (0 ≤ lba) = true := decide_eq_true (by omega)
        have q3 : decide ((m : Int) ≤ cap) = true := decide_eq_true (by omega)
        have q4 : decide (lba ≤ cap - (m : Int)) = false := decide_eq_false (by omega)
        have hw2 : wrap64 (cap - (m : Int)) = cap - (m : Int) := by unfold wrap64; omega
        have hw3 : IntKind.i64.wrap (cap - (m : Int)) = cap - (m : Int) := wrap_i64 (by omega) (by omega)
        clear hv r0 r1 r2 r3 r4
        go_wp2_with (fail)
        go_meet
        exact ⟨by rw [HV.out], rfl⟩
      have hv : decide (inRun (m : Int) lba cap) = true := decide_eq_true ⟨by omega, by omega, by omega, by omega, by omega⟩
      have HV := Lib.hid hv
      have q0 : decide (1 ≤ (m : Int)) = true := decide_eq_true (by omega)
      have q1 : decide ((m : Int) ≤ 8) = true := decide_eq_true (by omega)
      have q2 : decide (0 ≤ lba) = true := decide_eq_true (by omega)
      have q3 : decide ((m : Int) ≤ cap) = true := decide_eq_true (by omega)
      have q4 : decide (lba ≤ cap - (m : Int)) = true := decide_eq_true (by omega)
      have hw2 : wrap64 (cap - (m : Int)) = cap - (m : Int) := by unfold wrap64; omega
      have hw3 : IntKind.i64.wrap (cap - (m : Int)) = cap - (m : Int) := wrap_i64 (by omega) (by omega)
      clear hv r0 r1 r2 r3 r4
      go_wp2_with (fail)
      go_meet
      exact ⟨by rw [HV.out], rfl⟩
  case rest =>
    as_aux_lemma =>
      obtain ⟨rfl, rfl⟩ := hcut
      go_wp2_with (fail)
      refine (awake_any _).mono ?_
      rintro e w2 ⟨rfl, hb2⟩
      have hX2 := (hb2.block _ (lt_of_heap hX)).trans hX
      have HS2 := Lib.hid (hS.below hb2)
      have HB2 := Lib.hid (hB.trans (hb2.mono hB.size))
      obtain ⟨c0, c1, c2, c3, c4, c5, c6⟩ := row_cells hX2
      clear hb2 hX hS hB
      have C := check_any ⟨3, lba, 0, m, (noughts m), 0, 0, false⟩ (.slice (some ⟨w.heap.size + 1, 0, none⟩) m m) cap w2 HS2.out HCAP.out
      have hv : (Cmd.mk 3 lba 0 m (noughts m) 0 0 false).chk cap = runE (m : Int) lba cap := rfl
      rw [hv] at C
      have HC := Lib.hid C
      clear C hv
      go_wp2_with (fail)
      refine HC.out.mono ?_
      rintro e w3 ⟨rfl, hb3⟩
      have HB3 := Lib.hid (HB2.out.trans (hb3.mono HB2.out.size))
      clear hb3
      have hd : (runE (m : Int) lba cap == 0) = decide (inRun (m : Int) lba cap) := by
        unfold runE
        by_cases h : inRun (m : Int) lba cap
        · rw [if_pos h, decide_eq_true h]; rfl
        · rw [if_neg h, decide_eq_false h]; rfl
      generalize runE (m : Int) lba cap = re at *
      generalize decide (inRun (m : Int) lba cap) = B at *
      cases B
      all_goals
        go_wp2_with (fail)
        go_ret
        exact ⟨rfl, HB3.out⟩
theorem ranges_any (kk lba cnt nn cap : Int) (w : World) (hk : (Lit.int .u8 kk).wf = true) (hn : (Lit.int .u8 nn).wf = true) (hc : (Lit.int .i64 cap).wf = true) :
    Calls Try.prog 7 #[.int .u8 kk, .int .i64 lba, .int .i64 cnt, .int .u8 nn, .int .i64 cap] w fun e w' => e = .returned (.bool true) ∧ Below w.heap.size w w' := by
  have e0 : IntKind.u8.min = 0 := by decide
  have e1 : IntKind.u8.max = 255 := by decide
  simp [Lit.wf] at hk hn
  have h1 : Int.tmod nn 12 = nn % 12 := Int.tmod_eq_emod_of_nonneg (by omega)
  have h2 : Int.tmod kk 3 = kk % 3 := Int.tmod_eq_emod_of_nonneg (by omega)
  have h3 : 0 ≤ nn % 12 ∧ nn % 12 < 12 := by omega
  obtain ⟨m, hm⟩ := Int.eq_ofNat_of_zero_le h3.1
  have hm2 : Int.tmod nn 12 = (m : Int) := by rw [h1, hm]
  rcases (show kk % 3 = 0 ∨ kk % 3 = 1 ∨ kk % 3 = 2 by omega) with h | h | h
  · exact ranges_0 kk lba cnt nn cap w (by omega) m hm2 (by omega) hc
  · exact ranges_1 kk lba cnt nn cap w (by omega) m hm2 (by omega) hc
  · exact ranges_2 kk lba cnt nn cap w (by omega) m hm2 (by omega) hc
end Go.Proofs.Ytlkibkemmmppcaa.Wd
