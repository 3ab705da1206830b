/- CdbUnlike, walked. -/
import Derived.Test.YtlkibkemmmppcaaEnb
import Derived.Test.YtlkibkemmmppcaaSno
namespace Go.Proofs.Ytlkibkemmmppcaa.Wd
open Go.RowKit
set_option linter.unusedVariables false
set_option linter.unusedSimpArgs false
theorem Rd.take {w : World} {a : Addr} {n cap m : Nat} {L : List Int} (h : Rd w (.slice (some a) n cap) n 1 (u8s L)) (hm : m ≤ n) : Rd w (.slice (some a) m cap) m 1 (u8s (L.take m)) := by
  have hl := h.blen
  obtain ⟨_, A, c, hv, hn, hc, hz, h2⟩ := h
  simp only [Value.slice.injEq] at hv
  obtain ⟨rfl, _, rfl⟩ := hv
  refine ⟨by unfold u8s; simp; omega, some a, cap, rfl, by omega, hc, hz, fun h0 => ?_⟩
  obtain ⟨b, off, hA, hbl, hx⟩ := h2 (by omega)
  refine ⟨b, off, hA, hbl, fun j u hu => hx j u ?_⟩
  unfold u8s at hu ⊢
  have hj : j < m := by have := (List.getElem?_eq_some_iff.1 hu).1; simp at this; omega
  rw [List.getElem?_map, List.getElem?_take_of_lt hj] at hu
  rw [List.getElem?_map]; exact hu
/-- Byte 11 says how many sectors there are. -/
theorem bytes_11 (p : Cmd) : p.bytes[11]? = some (p.n : Int) := rfl
theorem cut_no (p : Cmd) (hw : p.bs.length = p.n * 16) (m : Nat) (hm : m < p.bytes.length) : ¬ ((prs (p.bytes.take m)).plain.ok ∧ (prs (p.bytes.take m)).plain.bytes = p.bytes.take m) := by
  rintro ⟨h1, h2⟩
  generalize hq : prs (p.bytes.take m) = q at *
  have hl := bytes_length q.plain
  rw [h2, List.length_take, Nat.min_eq_left (by omega)] at hl
  have hlq : 20 ≤ (p.bytes.take m).length := by rw [List.length_take]; omega
  have hwq := (wf_plain _ (wf_prs _ hlq)).2
  rw [hq] at hwq
  have h11 := bytes_11 q.plain
  rw [h2, List.getElem?_take_of_lt (by omega), bytes_11] at h11
  have hlp := bytes_length p
  simp only [Option.some.injEq] at h11
  omega
theorem more_no (p : Cmd) (hw : p.bs.length = p.n * 16) (ms : List Int) (hm : 0 < ms.length) : ¬ ((prs (p.bytes ++ ms)).plain.ok ∧ (prs (p.bytes ++ ms)).plain.bytes = p.bytes ++ ms) := by
  rintro ⟨h1, h2⟩
  have hlp := bytes_length p
  generalize hq : prs (p.bytes ++ ms) = q at *
  have hl := bytes_length q.plain
  rw [h2, List.length_append] at hl
  have hwq := (wf_plain _ (wf_prs (p.bytes ++ ms) (by rw [List.length_append]; omega))).2
  rw [hq] at hwq
  have h11 := bytes_11 q.plain
  rw [h2, List.getElem?_append_left (by omega), bytes_11] at h11
  simp only [Option.some.injEq] at h11
  omega
theorem bytes_inj (p q : Cmd) (hp : p.ok) (hq : q.ok) (wp : p.wf) (wq : q.wf) (h : p.bytes = q.bytes) : p = q := by
  rw [← prs_bytes p hp wp.1 wp.2, ← prs_bytes q hq wq.1 wq.2, h]
set_option maxRecDepth 100000 in
set_option maxHeartbeats 8000000 in
theorem unlike_0 (a b : Cmd) (da db vm : Value) (nm : Nat) (ms : List Int) (cut : Int) (w : World) (ha : Secs w da a) (hb : Secs w db b) (la : a.n * 16 ≤ 140737488355328) (lb : b.n * 16 ≤ 140737488355328)
    (ra : ∀ x ∈ a.bs, 0 ≤ x ∧ x ≤ 255) (rb : ∀ x ∈ b.bs, 0 ≤ x ∧ x ≤ 255) (wa : a.wf) (wb : b.wf) (hm : Rd w vm nm 1 (u8s ms)) (lm : nm ≤ 140737488355328 - 4096) (rm : ∀ x ∈ ms, 0 ≤ x ∧ x ≤ 255) (hc0 : 0 ≤ cut) (hc1 : cut ≤ 255) (hoka : ¬ a.plain.ok) (hokb : b.plain.ok) :
    Calls Try.prog 5 #[a.val da, b.val db, vm, .int .u8 cut] w fun e w' => e = .returned (.bool true) ∧ Below w.heap.size w w' := by
  have KA1 : Hid (Kp w ((w.alloc (.cells #[.int .i64 a.kind, .int .i64 a.lba, .int .i64 a.count, da, .int .u64 a.key, .int .i64 a.res, .bool a.keep] 25)).alloc (.cells #[.int .i64 b.kind, .int .i64 b.lba, .int .i64 b.count, db, .int .u64 b.key, .int .i64 b.res, .bool b.keep] 25)) w.heap.size #[.int .i64 a.kind, .int .i64 a.lba, .int .i64 a.count, da, .int .u64 a.key, .int .i64 a.res, .bool a.keep] da a) := Lib.hid ⟨two_first w _ _, ha.below (two_below w _ _), two_below w _ _⟩
  have KB1 : Hid (Kp w ((w.alloc (.cells #[.int .i64 a.kind, .int .i64 a.lba, .int .i64 a.count, da, .int .u64 a.key, .int .i64 a.res, .bool a.keep] 25)).alloc (.cells #[.int .i64 b.kind, .int .i64 b.lba, .int .i64 b.count, db, .int .u64 b.key, .int .i64 b.res, .bool b.keep] 25)) (w.heap.size + 1) #[.int .i64 b.kind, .int .i64 b.lba, .int .i64 b.count, db, .int .u64 b.key, .int .i64 b.res, .bool b.keep] db b) := Lib.hid ⟨two_last w _ _, hb.below (two_below w _ _), two_below w _ _⟩
  have OKA := Lib.hid hoka
  have OKB := Lib.hid hokb
  have LA := Lib.hid la
  have LB := Lib.hid lb
  have RA := Lib.hid ra
  have RB := Lib.hid rb
  have WA := Lib.hid wa
  have WB := Lib.hid wb
  have HM := Lib.hid hm
  have LM := Lib.hid lm
  have RM := Lib.hid rm
  obtain ⟨Am, cm, rfl, hm1, hm2, _⟩ := hm.bform
  have hnm : nm ≤ 9223372036854775807 := by omega
  clear ha hb la lb ra rb wa wb hm lm rm hoka hokb hm1 hm2
  unfold Cmd.val
  go_enter Try.func5, Try.ntmps5
  go_upto_region 1 with (fail)
  generalize (w.alloc _).alloc _ = w1 at *
  have HO := Lib.hid (own_any a da w1 KA1.out.secs LA.out)
  unfold Cmd.val at HO
  go_wp2_with (refine wpList_load_row rfl 25 (.tmp 4) rfl w.heap.size rfl 25 _ (0, 0) _ KA1.out.box Try.underlying25 rfl (by kernel_rfl) ?_)
  with_reducible refine (HO.out).mono ?_
  rintro e w2 ⟨dv2, rfl, ho2, hb2⟩
  have HC := Lib.hid (enc_bad a dv2 w2 ho2.secs LA.out OKA.out)
  clear ho2 HO
  unfold Cmd.val at HC
  have KA2 := Lib.hid (KA1.out.kept hb2)
  have KB2 := Lib.hid (KB1.out.kept hb2)
  clear hb2 KA1 KB1
  go_wp2_with (fail)
  with_reducible refine (HC.out).mono ?_
  rintro e w3 ⟨rfl, hb3⟩
  have RX3 : Hid (Rd w3 (.slice none 0 0) 0 1 (u8s [])) := Lib.hid (Rd.nil _ 1)
  clear HC
  have KA3 := Lib.hid (KA2.out.kept hb3)
  have KB3 := Lib.hid (KB2.out.kept hb3)
  clear hb3 KA2 KB2
  have HO := Lib.hid (own_any b db w3 KB3.out.secs LB.out)
  unfold Cmd.val at HO
  go_wp2_with (refine wpList_load_row rfl 25 (.tmp 5) rfl (w.heap.size + 1) rfl 25 _ (0, 0) _ KB3.out.box Try.underlying25 rfl (by kernel_rfl) ?_)
  with_reducible refine (HO.out).mono ?_
  rintro e w4 ⟨dv4, rfl, ho4, hb4⟩
  have HC := Lib.hid (enc_ok b dv4 w4 ho4.secs LB.out OKB.out)
  clear ho4 HO
  unfold Cmd.val at HC
  have KA4 := Lib.hid (KA3.out.kept hb4)
  have KB4 := Lib.hid (KB3.out.kept hb4)
  have RX4 := Lib.hid (RX3.out.below hb4)
  clear hb4 KA3 KB3 RX3
  go_wp2_with (fail)
  with_reducible refine (HC.out).mono ?_
  rintro e w5 ⟨vb, rfl, ho, hb5⟩
  have HXb := Lib.hid ho
  have RY5 := Lib.hid (Rd.of_own ho)
  clear ho HC
  clear HXb
  have KA5 := Lib.hid (KA4.out.kept hb5)
  have KB5 := Lib.hid (KB4.out.kept hb5)
  have RX5 := Lib.hid (RX4.out.below hb5)
  clear hb5 KA4 KB4 RX4
  go_wp2_with (fail)
  refine (awake_any _).mono ?_
  rintro e w6 ⟨rfl, hb6⟩
  have KA6 := Lib.hid (KA5.out.kept hb6)
  have KB6 := Lib.hid (KB5.out.kept hb6)
  have RX6 := Lib.hid (RX5.out.below hb6)
  have RY6 := Lib.hid (RY5.out.below hb6)
  clear hb6 KA5 KB5 RX5 RY5
  go_upto_region 5 with (fail)
  go_quiet (fail)
  all_goals
    go_wp2_with (fail)
    go_ret
    exact ⟨rfl, belowN KA6.out.below _⟩
set_option maxRecDepth 100000 in
set_option maxHeartbeats 8000000 in
theorem unlike_1 (a b : Cmd) (da db vm : Value) (nm : Nat) (ms : List Int) (cut : Int) (w : World) (ha : Secs w da a) (hb : Secs w db b) (la : a.n * 16 ≤ 140737488355328) (lb : b.n * 16 ≤ 140737488355328)
    (ra : ∀ x ∈ a.bs, 0 ≤ x ∧ x ≤ 255) (rb : ∀ x ∈ b.bs, 0 ≤ x ∧ x ≤ 255) (wa : a.wf) (wb : b.wf) (hm : Rd w vm nm 1 (u8s ms)) (lm : nm ≤ 140737488355328 - 4096) (rm : ∀ x ∈ ms, 0 ≤ x ∧ x ≤ 255) (hc0 : 0 ≤ cut) (hc1 : cut ≤ 255) (hoka : ¬ a.plain.ok) (hokb : ¬ b.plain.ok) :
    Calls Try.prog 5 #[a.val da, b.val db, vm, .int .u8 cut] w fun e w' => e = .returned (.bool true) ∧ Below w.heap.size w w' := by
  have KA1 : Hid (Kp w ((w.alloc (.cells #[.int .i64 a.kind, .int .i64 a.lba, .int .i64 a.count, da, .int .u64 a.key, .int .i64 a.res, .bool a.keep] 25)).alloc (.cells #[.int .i64 b.kind, .int .i64 b.lba, .int .i64 b.count, db, .int .u64 b.key, .int .i64 b.res, .bool b.keep] 25)) w.heap.size #[.int .i64 a.kind, .int .i64 a.lba, .int .i64 a.count, da, .int .u64 a.key, .int .i64 a.res, .bool a.keep] da a) := Lib.hid ⟨two_first w _ _, ha.below (two_below w _ _), two_below w _ _⟩
  have KB1 : Hid (Kp w ((w.alloc (.cells #[.int .i64 a.kind, .int .i64 a.lba, .int .i64 a.count, da, .int .u64 a.key, .int .i64 a.res, .bool a.keep] 25)).alloc (.cells #[.int .i64 b.kind, .int .i64 b.lba, .int .i64 b.count, db, .int .u64 b.key, .int .i64 b.res, .bool b.keep] 25)) (w.heap.size + 1) #[.int .i64 b.kind, .int .i64 b.lba, .int .i64 b.count, db, .int .u64 b.key, .int .i64 b.res, .bool b.keep] db b) := Lib.hid ⟨two_last w _ _, hb.below (two_below w _ _), two_below w _ _⟩
  have OKA := Lib.hid hoka
  have OKB := Lib.hid hokb
  have LA := Lib.hid la
  have LB := Lib.hid lb
  have RA := Lib.hid ra
  have RB := Lib.hid rb
  have WA := Lib.hid wa
  have WB := Lib.hid wb
  have HM := Lib.hid hm
  have LM := Lib.hid lm
  have RM := Lib.hid rm
  obtain ⟨Am, cm, rfl, hm1, hm2, _⟩ := hm.bform
  have hnm : nm ≤ 9223372036854775807 := by omega
  clear ha hb la lb ra rb wa wb hm lm rm hoka hokb hm1 hm2
  unfold Cmd.val
  go_enter Try.func5, Try.ntmps5
  go_upto_region 1 with (fail)
  generalize (w.alloc _).alloc _ = w1 at *
  have HO := Lib.hid (own_any a da w1 KA1.out.secs LA.out)
  unfold Cmd.val at HO
  go_wp2_with (refine wpList_load_row rfl 25 (.tmp 4) rfl w.heap.size rfl 25 _ (0, 0) _ KA1.out.box Try.underlying25 rfl (by kernel_rfl) ?_)
  with_reducible refine (HO.out).mono ?_
  rintro e w2 ⟨dv2, rfl, ho2, hb2⟩
  have HC := Lib.hid (enc_bad a dv2 w2 ho2.secs LA.out OKA.out)
  clear ho2 HO
  unfold Cmd.val at HC
  have KA2 := Lib.hid (KA1.out.kept hb2)
  have KB2 := Lib.hid (KB1.out.kept hb2)
  clear hb2 KA1 KB1
  go_wp2_with (fail)
  with_reducible refine (HC.out).mono ?_
  rintro e w3 ⟨rfl, hb3⟩
  have RX3 : Hid (Rd w3 (.slice none 0 0) 0 1 (u8s [])) := Lib.hid (Rd.nil _ 1)
  clear HC
  have KA3 := Lib.hid (KA2.out.kept hb3)
  have KB3 := Lib.hid (KB2.out.kept hb3)
  clear hb3 KA2 KB2
  have HO := Lib.hid (own_any b db w3 KB3.out.secs LB.out)
  unfold Cmd.val at HO
  go_wp2_with (refine wpList_load_row rfl 25 (.tmp 5) rfl (w.heap.size + 1) rfl 25 _ (0, 0) _ KB3.out.box Try.underlying25 rfl (by kernel_rfl) ?_)
  with_reducible refine (HO.out).mono ?_
  rintro e w4 ⟨dv4, rfl, ho4, hb4⟩
  have HC := Lib.hid (enc_bad b dv4 w4 ho4.secs LB.out OKB.out)
  clear ho4 HO
  unfold Cmd.val at HC
  have KA4 := Lib.hid (KA3.out.kept hb4)
  have KB4 := Lib.hid (KB3.out.kept hb4)
  have RX4 := Lib.hid (RX3.out.below hb4)
  clear hb4 KA3 KB3 RX3
  go_wp2_with (fail)
  with_reducible refine (HC.out).mono ?_
  rintro e w5 ⟨rfl, hb5⟩
  have RY5 : Hid (Rd w5 (.slice none 0 0) 0 1 (u8s [])) := Lib.hid (Rd.nil _ 1)
  clear HC
  have KA5 := Lib.hid (KA4.out.kept hb5)
  have KB5 := Lib.hid (KB4.out.kept hb5)
  have RX5 := Lib.hid (RX4.out.below hb5)
  clear hb5 KA4 KB4 RX4
  go_wp2_with (fail)
  refine (awake_any _).mono ?_
  rintro e w6 ⟨rfl, hb6⟩
  have KA6 := Lib.hid (KA5.out.kept hb6)
  have KB6 := Lib.hid (KB5.out.kept hb6)
  have RX6 := Lib.hid (RX5.out.below hb6)
  have RY6 := Lib.hid (RY5.out.below hb6)
  clear hb6 KA5 KB5 RX5 RY5
  go_upto_region 5 with (fail)
  go_quiet (fail)
  all_goals
    go_wp2_with (fail)
    go_ret
    exact ⟨rfl, belowN KA6.out.below _⟩
set_option maxRecDepth 100000 in
set_option maxHeartbeats 8000000 in
theorem unlike_2 (a b : Cmd) (da db vm : Value) (nm : Nat) (ms : List Int) (cut : Int) (w : World) (ha : Secs w da a) (hb : Secs w db b) (la : a.n * 16 ≤ 140737488355328) (lb : b.n * 16 ≤ 140737488355328)
    (ra : ∀ x ∈ a.bs, 0 ≤ x ∧ x ≤ 255) (rb : ∀ x ∈ b.bs, 0 ≤ x ∧ x ≤ 255) (wa : a.wf) (wb : b.wf) (hm : Rd w vm nm 1 (u8s ms)) (lm : nm ≤ 140737488355328 - 4096) (rm : ∀ x ∈ ms, 0 ≤ x ∧ x ≤ 255) (hc0 : 0 ≤ cut) (hc1 : cut ≤ 255) (hoka : a.plain.ok) (hokb : ¬ b.plain.ok) :
    Calls Try.prog 5 #[a.val da, b.val db, vm, .int .u8 cut] w fun e w' => e = .returned (.bool true) ∧ Below w.heap.size w w' := by
  have KA1 : Hid (Kp w ((w.alloc (.cells #[.int .i64 a.kind, .int .i64 a.lba, .int .i64 a.count, da, .int .u64 a.key, .int .i64 a.res, .bool a.keep] 25)).alloc (.cells #[.int .i64 b.kind, .int .i64 b.lba, .int .i64 b.count, db, .int .u64 b.key, .int .i64 b.res, .bool b.keep] 25)) w.heap.size #[.int .i64 a.kind, .int .i64 a.lba, .int .i64 a.count, da, .int .u64 a.key, .int .i64 a.res, .bool a.keep] da a) := Lib.hid ⟨two_first w _ _, ha.below (two_below w _ _), two_below w _ _⟩
  have KB1 : Hid (Kp w ((w.alloc (.cells #[.int .i64 a.kind, .int .i64 a.lba, .int .i64 a.count, da, .int .u64 a.key, .int .i64 a.res, .bool a.keep] 25)).alloc (.cells #[.int .i64 b.kind, .int .i64 b.lba, .int .i64 b.count, db, .int .u64 b.key, .int .i64 b.res, .bool b.keep] 25)) (w.heap.size + 1) #[.int .i64 b.kind, .int .i64 b.lba, .int .i64 b.count, db, .int .u64 b.key, .int .i64 b.res, .bool b.keep] db b) := Lib.hid ⟨two_last w _ _, hb.below (two_below w _ _), two_below w _ _⟩
  have OKA := Lib.hid hoka
  have OKB := Lib.hid hokb
  have LA := Lib.hid la
  have LB := Lib.hid lb
  have RA := Lib.hid ra
  have RB := Lib.hid rb
  have WA := Lib.hid wa
  have WB := Lib.hid wb
  have HM := Lib.hid hm
  have LM := Lib.hid lm
  have RM := Lib.hid rm
  obtain ⟨Am, cm, rfl, hm1, hm2, _⟩ := hm.bform
  have hnm : nm ≤ 9223372036854775807 := by omega
  clear ha hb la lb ra rb wa wb hm lm rm hoka hokb hm1 hm2
  unfold Cmd.val
  go_enter Try.func5, Try.ntmps5
  go_upto_region 1 with (fail)
  generalize (w.alloc _).alloc _ = w1 at *
  have HO := Lib.hid (own_any a da w1 KA1.out.secs LA.out)
  unfold Cmd.val at HO
  go_wp2_with (refine wpList_load_row rfl 25 (.tmp 4) rfl w.heap.size rfl 25 _ (0, 0) _ KA1.out.box Try.underlying25 rfl (by kernel_rfl) ?_)
  with_reducible refine (HO.out).mono ?_
  rintro e w2 ⟨dv2, rfl, ho2, hb2⟩
  have HC := Lib.hid (enc_ok a dv2 w2 ho2.secs LA.out OKA.out)
  clear ho2 HO
  unfold Cmd.val at HC
  have KA2 := Lib.hid (KA1.out.kept hb2)
  have KB2 := Lib.hid (KB1.out.kept hb2)
  clear hb2 KA1 KB1
  go_wp2_with (fail)
  with_reducible refine (HC.out).mono ?_
  rintro e w3 ⟨va, rfl, ho, hb3⟩
  have HXa := Lib.hid ho
  have RX3 := Lib.hid (Rd.of_own ho)
  clear ho HC
  obtain ⟨Aa, ca, rfl, hna, hca⟩ := own_form HXa.out
  obtain ⟨ra, rfl, _, _⟩ := own_addr HXa.out (by rw [bytes_length]; omega)
  clear HXa
  have KA3 := Lib.hid (KA2.out.kept hb3)
  have KB3 := Lib.hid (KB2.out.kept hb3)
  clear hb3 KA2 KB2
  have HO := Lib.hid (own_any b db w3 KB3.out.secs LB.out)
  unfold Cmd.val at HO
  go_wp2_with (refine wpList_load_row rfl 25 (.tmp 5) rfl (w.heap.size + 1) rfl 25 _ (0, 0) _ KB3.out.box Try.underlying25 rfl (by kernel_rfl) ?_)
  with_reducible refine (HO.out).mono ?_
  rintro e w4 ⟨dv4, rfl, ho4, hb4⟩
  have HC := Lib.hid (enc_bad b dv4 w4 ho4.secs LB.out OKB.out)
  clear ho4 HO
  unfold Cmd.val at HC
  have KA4 := Lib.hid (KA3.out.kept hb4)
  have KB4 := Lib.hid (KB3.out.kept hb4)
  have RX4 := Lib.hid (RX3.out.below hb4)
  clear hb4 KA3 KB3 RX3
  go_wp2_with (fail)
  with_reducible refine (HC.out).mono ?_
  rintro e w5 ⟨rfl, hb5⟩
  have RY5 : Hid (Rd w5 (.slice none 0 0) 0 1 (u8s [])) := Lib.hid (Rd.nil _ 1)
  clear HC
  have KA5 := Lib.hid (KA4.out.kept hb5)
  have KB5 := Lib.hid (KB4.out.kept hb5)
  have RX5 := Lib.hid (RX4.out.below hb5)
  clear hb5 KA4 KB4 RX4
  go_wp2_with (fail)
  refine (awake_any _).mono ?_
  rintro e w6 ⟨rfl, hb6⟩
  have KA6 := Lib.hid (KA5.out.kept hb6)
  have KB6 := Lib.hid (KB5.out.kept hb6)
  have RX6 := Lib.hid (RX5.out.below hb6)
  have RY6 := Lib.hid (RY5.out.below hb6)
  clear hb6 KA5 KB5 RX5 RY5
  go_upto_region 5 with (fail)
  go_quiet (fail)
  all_goals
    go_upto_region 9 with (fail)
    generalize hw7 : World.drewN w6 _ = w7
    have hb7 : Below w6.heap.size w6 w7 := by rw [← hw7]; exact belowN (Below.refl _ _) _
    clear hw7
    have BW := Lib.hid (KA6.out.below.trans (hb7.mono KA6.out.below.size))
    have RX := Lib.hid (RX6.out.below hb7)
    clear hb7
    clear KA6 KB6 RX6 RY6
    have HNA : Hid (a.plain.bytes.length = 20 + a.plain.bs.length) := Lib.hid (bytes_length _)
    have HN8 : Hid (a.plain.bytes.length ≤ 148) := Lib.hid (by have h := HNA.out; have h2 := (wf_plain _ WA.out).2; have h3 := OKA.out.2.2.2.2.2.2.2.2; omega)
    have HCB : Hid (∀ x ∈ a.plain.bytes, 0 ≤ x ∧ x ≤ 255) := Lib.hid (bytes_range _ OKA.out (plain_range _ RA.out))
    have HLW := Lib.hid (dec_bytes a OKA.out WA.out)
    have HCN := Lib.hid (cut_no a.plain (wf_plain _ WA.out).2)
    have HMN := Lib.hid (more_no a.plain (wf_plain _ WA.out).2)
    have hna0 : 0 < a.plain.bytes.length := by have := HNA.out; omega
    clear HNA
    generalize hLL : a.plain.bytes = LX at *
    clear hLL
    generalize hnn : LX.length = nx at *
    have hnx63 : nx ≤ 148 := HN8.out
    have HNN := Lib.hid hnn
    clear hnn
    obtain ⟨m, hmm⟩ : ∃ m : Nat, Int.tmod cut (nx : Int) = (m : Int) := ⟨(Int.tmod cut (nx : Int)).toNat, by rw [Int.toNat_of_nonneg (Int.tmod_nonneg _ hc0)]⟩
    have hmn : m < nx := by have := Int.tmod_lt_of_pos cut (show (0 : Int) < (nx : Int) by omega); omega
    have hmm2 : cut % (nx : Int) = (m : Int) := by rw [← Int.tmod_eq_emod_of_nonneg hc0]; exact hmm
    have HD1 := Lib.hid (dec_any (.slice (some ⟨ra, 0, none⟩) m ca) m (LX.take m) w7 (RX.out.take (by omega)) (fun x hx => HCB.out x (List.mem_of_mem_take hx)))
    have hcut : IntKind.i64.wrap cut = cut := i64_small _ hc0 (by omega)
    have g1 : ¬ (nx : Int) = 0 := by omega
    have g3 : m ≤ ca := by omega
    have g5 : (m : Int) ≤ (ca : Int) := by omega
    go_wp2_with (fail)
    refine (HD1.out).mono ?_
    rintro e w20 hdp
    obtain ⟨hno, _, _⟩ | ⟨_, rfl, hb20⟩ := hdp
    · exact absurd hno (HCN.out m (by omega))
    unfold Cmd.val
    clear HD1 hmm hmm2 hcut g1 g3 g5
    have B20 := Lib.hid (BW.out.trans (hb20.mono BW.out.size))
    have RX20 := Lib.hid (RX.out.below hb20)
    clear hb20 BW RX
    go_upto_region 10 with (refine wpList_store_row rfl 25 _ _ rfl w20.heap.size _ rfl rfl 25 _ (heap_alloc_new w20 _) (by kernel_rfl) rfl (row_one _ _ _ _ _ _ _ _ _) ?_)
    have hn21 := (new_row w20 #[.int .i64 0, .int .i64 0, .int .i64 0, .slice none 0 0, .int .u64 0, .int .i64 0, .bool false] #[.int .i64 czero.kind, .int .i64 czero.lba, .int .i64 czero.count, .slice none 0 0, .int .u64 czero.key, .int .i64 czero.res, .bool czero.keep]).2
    generalize World.setRow _ _ _ = w21 at hn21 ⊢
    have B21 := Lib.hid (B20.out.trans (hn21.mono B20.out.size))
    have RX21 := Lib.hid (RX20.out.below hn21)
    clear hn21 B20 RX20
    obtain ⟨v22, w22, hr22, ho22, hb22⟩ := copy_bytes w21 _ _ _ RX21.out (u8s_one _) (by omega)
    have B22 := Lib.hid (B21.out.trans (hb22.mono B21.out.size))
    obtain ⟨v23, w23, hr23, ho23, hg23, hk23⟩ := cat_bytes w22 _ _ _ _ (.slice Am nm cm) nm (u8s ms) ho22 (HM.out.below B22.out) (u8s_one _) (by have := LM.out; omega) hb22.size
    have B23 : Hid (Below w.heap.size w w23) := Lib.hid (Only.below B22.out (Only.grown hg23) B22.out.size (fun q hq => by have := (ho22.lt q (by simpa using hq)).1; have := B21.out.size; omega))
    have HR22 := Lib.hid hr22
    have HR23 := Lib.hid hr23
    have ho23 : w23.ownsRow w21.heap.size 5 1 v23 (nx + nm) (u8s (LX ++ ms)) := by unfold u8s at *; rw [List.map_append]; exact ho23
    have HD2 := Lib.hid (dec_any v23 (nx + nm) (LX ++ ms) w23 (Rd.of_own ho23) (fun x hx => by rcases List.mem_append.1 hx with h | h; exact HCB.out x h; exact RM.out x h))
    clear hr22 hr23 ho22 hb22 hg23 hk23 ho23 B21 B22 RX21
    go_wp2_with (first
      | (at_builtin; refine wpList_append_ran rfl (.tmp 67) (.tmp 68) 26 rfl _ _ rfl rfl _ _ HR22.out ?_)
      | (at_builtin; refine wpList_append_ran rfl (.tmp 69) (.tmp 70) 26 rfl _ _ rfl rfl _ _ HR23.out ?_))
    refine (HD2.out).mono ?_
    rintro e w24 hdp
    have hml : ms.length = nm := HM.out.blen
    by_cases hz : nm = 0
    · obtain rfl : ms = [] := List.eq_nil_of_length_eq_zero (by omega)
      obtain rfl := hz
      rw [List.append_nil] at hdp
      obtain ⟨_, dv24, rfl, ho24, hb24⟩ | ⟨hno, _, _⟩ := hdp
      rotate_left
      · exact absurd HLW.out.2 hno
      obtain ⟨A24, c24, rfl, _, _⟩ := own_form ho24
      have B24 := Lib.hid (B23.out.trans (hb24.mono B23.out.size))
      clear hb24 ho24 B23 HR22 HR23 HD2
      unfold Cmd.val
      go_wp2_with (refine wpList_store_row rfl 25 _ _ rfl w24.heap.size _ rfl rfl 25 _ (heap_alloc_new w24 _) (by kernel_rfl) rfl (row_one _ _ _ _ _ _ _ _ _) ?_)
      go_ret
      exact ⟨rfl, B24.out.trans ((new_row w24 _ _).2.mono B24.out.size)⟩
    · obtain ⟨hno, _, _⟩ | ⟨_, rfl, hb24⟩ := hdp
      · exact absurd hno (HMN.out ms (by omega))
      have B24 := Lib.hid (B23.out.trans (hb24.mono B23.out.size))
      have hz2 : ((nm : Int) == 0) = false := bF (by omega)
      clear hb24 B23 HR22 HR23 HD2
      unfold Cmd.val
      go_wp2_with (refine wpList_store_row rfl 25 _ _ rfl w24.heap.size _ rfl rfl 25 _ (heap_alloc_new w24 _) (by kernel_rfl) rfl (row_one _ _ _ _ _ _ _ _ _) ?_)
      go_ret
      exact ⟨rfl, B24.out.trans ((new_row w24 _ _).2.mono B24.out.size)⟩
set_option maxRecDepth 100000 in
set_option maxHeartbeats 8000000 in
theorem unlike_3 (a b : Cmd) (da db vm : Value) (nm : Nat) (ms : List Int) (cut : Int) (w : World) (ha : Secs w da a) (hb : Secs w db b) (la : a.n * 16 ≤ 140737488355328) (lb : b.n * 16 ≤ 140737488355328)
    (ra : ∀ x ∈ a.bs, 0 ≤ x ∧ x ≤ 255) (rb : ∀ x ∈ b.bs, 0 ≤ x ∧ x ≤ 255) (wa : a.wf) (wb : b.wf) (hm : Rd w vm nm 1 (u8s ms)) (lm : nm ≤ 140737488355328 - 4096) (rm : ∀ x ∈ ms, 0 ≤ x ∧ x ≤ 255) (hc0 : 0 ≤ cut) (hc1 : cut ≤ 255) (hoka : a.plain.ok) (hokb : b.plain.ok) (hep : a.plain = b.plain) :
    Calls Try.prog 5 #[a.val da, b.val db, vm, .int .u8 cut] w fun e w' => e = .returned (.bool true) ∧ Below w.heap.size w w' := by
  have HEP := Lib.hid hep
  have HEB : Hid (a.plain.bytes = b.plain.bytes) := Lib.hid (by rw [hep])
  clear hep
  have KA1 : Hid (Kp w ((w.alloc (.cells #[.int .i64 a.kind, .int .i64 a.lba, .int .i64 a.count, da, .int .u64 a.key, .int .i64 a.res, .bool a.keep] 25)).alloc (.cells #[.int .i64 b.kind, .int .i64 b.lba, .int .i64 b.count, db, .int .u64 b.key, .int .i64 b.res, .bool b.keep] 25)) w.heap.size #[.int .i64 a.kind, .int .i64 a.lba, .int .i64 a.count, da, .int .u64 a.key, .int .i64 a.res, .bool a.keep] da a) := Lib.hid ⟨two_first w _ _, ha.below (two_below w _ _), two_below w _ _⟩
  have KB1 : Hid (Kp w ((w.alloc (.cells #[.int .i64 a.kind, .int .i64 a.lba, .int .i64 a.count, da, .int .u64 a.key, .int .i64 a.res, .bool a.keep] 25)).alloc (.cells #[.int .i64 b.kind, .int .i64 b.lba, .int .i64 b.count, db, .int .u64 b.key, .int .i64 b.res, .bool b.keep] 25)) (w.heap.size + 1) #[.int .i64 b.kind, .int .i64 b.lba, .int .i64 b.count, db, .int .u64 b.key, .int .i64 b.res, .bool b.keep] db b) := Lib.hid ⟨two_last w _ _, hb.below (two_below w _ _), two_below w _ _⟩
  have OKA := Lib.hid hoka
  have OKB := Lib.hid hokb
  have LA := Lib.hid la
  have LB := Lib.hid lb
  have RA := Lib.hid ra
  have RB := Lib.hid rb
  have WA := Lib.hid wa
  have WB := Lib.hid wb
  have HM := Lib.hid hm
  have LM := Lib.hid lm
  have RM := Lib.hid rm
  obtain ⟨Am, cm, rfl, hm1, hm2, _⟩ := hm.bform
  have hnm : nm ≤ 9223372036854775807 := by omega
  clear ha hb la lb ra rb wa wb hm lm rm hoka hokb hm1 hm2
  unfold Cmd.val
  go_enter Try.func5, Try.ntmps5
  go_upto_region 1 with (fail)
  generalize (w.alloc _).alloc _ = w1 at *
  have HO := Lib.hid (own_any a da w1 KA1.out.secs LA.out)
  unfold Cmd.val at HO
  go_wp2_with (refine wpList_load_row rfl 25 (.tmp 4) rfl w.heap.size rfl 25 _ (0, 0) _ KA1.out.box Try.underlying25 rfl (by kernel_rfl) ?_)
  with_reducible refine (HO.out).mono ?_
  rintro e w2 ⟨dv2, rfl, ho2, hb2⟩
  have HC := Lib.hid (enc_ok a dv2 w2 ho2.secs LA.out OKA.out)
  clear ho2 HO
  unfold Cmd.val at HC
  have KA2 := Lib.hid (KA1.out.kept hb2)
  have KB2 := Lib.hid (KB1.out.kept hb2)
  clear hb2 KA1 KB1
  go_wp2_with (fail)
  with_reducible refine (HC.out).mono ?_
  rintro e w3 ⟨va, rfl, ho, hb3⟩
  have HXa := Lib.hid ho
  have RX3 := Lib.hid (Rd.of_own ho)
  clear ho HC
  obtain ⟨Aa, ca, rfl, hna, hca⟩ := own_form HXa.out
  obtain ⟨ra, rfl, _, _⟩ := own_addr HXa.out (by rw [bytes_length]; omega)
  clear HXa
  have KA3 := Lib.hid (KA2.out.kept hb3)
  have KB3 := Lib.hid (KB2.out.kept hb3)
  clear hb3 KA2 KB2
  have HO := Lib.hid (own_any b db w3 KB3.out.secs LB.out)
  unfold Cmd.val at HO
  go_wp2_with (refine wpList_load_row rfl 25 (.tmp 5) rfl (w.heap.size + 1) rfl 25 _ (0, 0) _ KB3.out.box Try.underlying25 rfl (by kernel_rfl) ?_)
  with_reducible refine (HO.out).mono ?_
  rintro e w4 ⟨dv4, rfl, ho4, hb4⟩
  have HC := Lib.hid (enc_ok b dv4 w4 ho4.secs LB.out OKB.out)
  clear ho4 HO
  unfold Cmd.val at HC
  have KA4 := Lib.hid (KA3.out.kept hb4)
  have KB4 := Lib.hid (KB3.out.kept hb4)
  have RX4 := Lib.hid (RX3.out.below hb4)
  clear hb4 KA3 KB3 RX3
  go_wp2_with (fail)
  with_reducible refine (HC.out).mono ?_
  rintro e w5 ⟨vb, rfl, ho, hb5⟩
  have HXb := Lib.hid ho
  have RY5 := Lib.hid (Rd.of_own ho)
  clear ho HC
  clear HXb
  have KA5 := Lib.hid (KA4.out.kept hb5)
  have KB5 := Lib.hid (KB4.out.kept hb5)
  have RX5 := Lib.hid (RX4.out.below hb5)
  clear hb5 KA4 KB4 RX4
  go_wp2_with (fail)
  refine (awake_any _).mono ?_
  rintro e w6 ⟨rfl, hb6⟩
  have KA6 := Lib.hid (KA5.out.kept hb6)
  have KB6 := Lib.hid (KB5.out.kept hb6)
  have RX6 := Lib.hid (RX5.out.below hb6)
  have RY6 := Lib.hid (RY5.out.below hb6)
  clear hb6 KA5 KB5 RX5 RY5
  go_upto_region 5 with (fail)
  have hS0 : Below w6.heap.size w6 w6.drew := (Below.refl _ _).drew
  have HSB := Lib.hid (fun (W : World) (hW : Below w6.heap.size w6 W) => (show Calls Try.prog 12 #[.slice (some ⟨ra, 0, none⟩) a.plain.bytes.length ca, vb] W fun e w' => e = .returned (.bool true) ∧ Below W.heap.size W w' from (same_bytes _ _ _ _ _ _ W (RX6.out.below hW) (RY6.out.below hW)).mono (fun e w' h => by rw [decide_eq_true HEB.out] at h; exact h)))
  have HOA := Lib.hid (fun (W : World) (hW : Below w6.heap.size w6 W) => own_any a da W (KA6.out.secs.below hW) LA.out)
  have HOB := Lib.hid (fun (W : World) (hW : Below w6.heap.size w6 W) => own_any b db W (KB6.out.secs.below hW) LB.out)
  unfold Cmd.val at HOA HOB
  refine wp_region_held_drew (S := fun W => Below w6.heap.size w6 W) (by kernel_rfl) hS0 (fun hS => ?_)
  refine wpAnyH_take (i := 0) (v := ?_) rfl (by kernel_rfl) (by kernel_rfl) (by kernel_rfl) (fun _ _ _ h => h) (Or.inl ⟨by rfl, ?_⟩) hS ?_
  rotate_left
  · intro w' hSw; go_simp; try rfl
  try simp only [Act.put, List.getElem_toArray, List.getElem_cons_succ, List.getElem_cons_zero, List.setIfInBounds_toArray, List.set_cons_zero, List.set_cons_succ]
  refine wpAnyH_take (i := 1) (v := ?_) rfl (by kernel_rfl) (by kernel_rfl) (by kernel_rfl) (fun _ _ _ h => h) (Or.inl ⟨by rfl, ?_⟩) hS ?_
  rotate_left
  · intro w' hSw; go_simp; try rfl
  try simp only [Act.put, List.getElem_toArray, List.getElem_cons_succ, List.getElem_cons_zero, List.setIfInBounds_toArray, List.set_cons_zero, List.set_cons_succ]
  refine wpAnyH_take (i := 2) (v := ?_) rfl (by kernel_rfl) (by kernel_rfl) (by kernel_rfl) (fun _ _ _ h => h) (Or.inl ⟨by rfl, ?_⟩) hS ?_
  rotate_left
  · intro w' hSw; go_simp; try rfl
  try simp only [Act.put, List.getElem_toArray, List.getElem_cons_succ, List.getElem_cons_zero, List.setIfInBounds_toArray, List.set_cons_zero, List.set_cons_succ]
  refine wpAnyH_take (i := 3) (v := ?_) rfl (by kernel_rfl) (by kernel_rfl) (by kernel_rfl) (fun _ _ _ h => h) (Or.inl ⟨by rfl, ?_⟩) hS ?_
  rotate_left
  · intro w' hSw; go_simp; try rfl
  try simp only [Act.put, List.getElem_toArray, List.getElem_cons_succ, List.getElem_cons_zero, List.setIfInBounds_toArray, List.set_cons_zero, List.set_cons_succ]
  refine wpAnyH_take (i := 4) (v := ?_) rfl (by kernel_rfl) (by kernel_rfl) (by kernel_rfl) (fun _ _ _ h => h) (Or.inl ⟨by rfl, ?_⟩) hS ?_
  rotate_left
  · intro w' hSw; go_simp; try rfl
  try simp only [Act.put, List.getElem_toArray, List.getElem_cons_succ, List.getElem_cons_zero, List.setIfInBounds_toArray, List.set_cons_zero, List.set_cons_succ]
  refine wpAnyH_take (i := 5) (v := ?_) rfl (by kernel_rfl) (by kernel_rfl) (by kernel_rfl) (fun _ _ _ h => h) (Or.inl ⟨by rfl, ?_⟩) hS ?_
  rotate_left
  · intro w' hSw; go_simp; try rfl
  try simp only [Act.put, List.getElem_toArray, List.getElem_cons_succ, List.getElem_cons_zero, List.setIfInBounds_toArray, List.set_cons_zero, List.set_cons_succ]
  refine wpAnyH_take (i := 6) (v := ?_) rfl (by kernel_rfl) (by kernel_rfl) (by kernel_rfl) (fun _ _ _ h => h) (Or.inl ⟨by rfl, ?_⟩) hS ?_
  rotate_left
  · intro w' hSw; go_simp; try rfl
  try simp only [Act.put, List.getElem_toArray, List.getElem_cons_succ, List.getElem_cons_zero, List.setIfInBounds_toArray, List.set_cons_zero, List.set_cons_succ]
  refine wpAnyH_take (i := 7) (v := ?_) rfl (by kernel_rfl) (by kernel_rfl) (by kernel_rfl) (fun _ _ _ h => h) (Or.inl ⟨by rfl, ?_⟩) hS ?_
  rotate_left
  · intro w' hSw; go_simp; try rfl
  try simp only [Act.put, List.getElem_toArray, List.getElem_cons_succ, List.getElem_cons_zero, List.setIfInBounds_toArray, List.set_cons_zero, List.set_cons_succ]
  refine wpAnyH_take (i := 8) (v := ?_) rfl (by kernel_rfl) (by kernel_rfl) (by kernel_rfl) (fun _ _ _ h => h) (Or.inl ⟨by rfl, ?_⟩) hS ?_
  rotate_left
  · intro w' hSw; go_simp; try rfl
  try simp only [Act.put, List.getElem_toArray, List.getElem_cons_succ, List.getElem_cons_zero, List.setIfInBounds_toArray, List.set_cons_zero, List.set_cons_succ]
  refine wpAnyH_take (i := 10) (v := .agg #[.int .i64 a.kind, .int .i64 a.lba, .int .i64 a.count, da, .int .u64 a.key, .int .i64 a.res, .bool a.keep]) rfl (by kernel_rfl) (by kernel_rfl) (by kernel_rfl) (fun _ _ _ h => h) (Or.inl ⟨by rfl, fun w' hSw => ?_⟩) hS ?_
  · exact exec_load_row 25 _ rfl w.heap.size rfl 25 _ (0, 0) _ ((hSw.block _ (lt_of_heap KA6.out.box)).trans KA6.out.box) Try.underlying25 rfl (by kernel_rfl)
  try simp only [Act.put, List.getElem_toArray, List.getElem_cons_succ, List.getElem_cons_zero, List.setIfInBounds_toArray, List.set_cons_zero, List.set_cons_succ]
  refine wpAnyH_take (i := 13) (v := .agg #[.int .i64 b.kind, .int .i64 b.lba, .int .i64 b.count, db, .int .u64 b.key, .int .i64 b.res, .bool b.keep]) rfl (by kernel_rfl) (by kernel_rfl) (by kernel_rfl) (fun _ _ _ h => h) (Or.inl ⟨by rfl, fun w' hSw => ?_⟩) hS ?_
  · exact exec_load_row 25 _ rfl (w.heap.size + 1) rfl 25 _ (0, 0) _ ((hSw.block _ (lt_of_heap KB6.out.box)).trans KB6.out.box) Try.underlying25 rfl (by kernel_rfl)
  try simp only [Act.put, List.getElem_toArray, List.getElem_cons_succ, List.getElem_cons_zero, List.setIfInBounds_toArray, List.set_cons_zero, List.set_cons_succ]
  refine wpAnyH_ready (rs := [9]) (by kernel_rfl) (by simp) ?_
  refine AllReadyH.cons rfl (fun K hK => ?_) AllReadyH.nil
  go_simp
  refine (HSB.out _ hS).mono ?_
  rintro e w10 ⟨rfl, hb10⟩
  have hT : Below w6.heap.size w6 w10 := hS.trans (hb10.mono hS.size)
  clear hb10
  go_wp2_with (fail)
  refine hK.out _ _ hT (fun hU => ?_)
  clear hK K hU hS
  have hS := hT
  clear hT
  try simp only [Act.put, List.getElem_toArray, List.getElem_cons_succ, List.getElem_cons_zero, List.setIfInBounds_toArray, List.set_cons_zero, List.set_cons_succ]
  refine wpAnyH_ready (rs := [11]) (by kernel_rfl) (by simp) ?_
  refine AllReadyH.cons rfl (fun K hK => ?_) AllReadyH.nil
  go_simp
  refine (HOA.out _ hS).mono ?_
  rintro e w11 ⟨dv11, rfl, ho11, hb11⟩
  have hT : Below w6.heap.size w6 w11 := hS.trans (hb11.mono hS.size)
  have HPA := Lib.hid (plain_any a dv11 w11 ho11.secs LA.out)
  unfold Cmd.val at HPA
  clear hb11 ho11
  go_wp2_with (fail)
  refine hK.out _ _ hT (fun hU => ?_)
  clear hK K hU hS
  have hS := hT
  clear hT
  try simp only [Act.put, List.getElem_toArray, List.getElem_cons_succ, List.getElem_cons_zero, List.setIfInBounds_toArray, List.set_cons_zero, List.set_cons_succ]
  refine wpAnyH_ready (rs := [12]) (by kernel_rfl) (by simp) ?_
  refine AllReadyH.cons rfl (fun K hK => ?_) AllReadyH.nil
  go_simp
  refine (HPA.out).mono ?_
  rintro e w12 ⟨dv12, rfl, ho12, hb12⟩
  have hT : Below w6.heap.size w6 w12 := hS.trans (hb12.mono hS.size)
  have HA12 := Lib.hid (show Secs w12 dv12 a.plain from Rd.of_own ho12)
  clear hb12 ho12 HPA
  go_wp2_with (fail)
  refine hK.out _ _ hT (fun hU => ?_)
  clear hK K hU hS
  have hS := hT
  clear hT
  try simp only [Act.put, List.getElem_toArray, List.getElem_cons_succ, List.getElem_cons_zero, List.setIfInBounds_toArray, List.set_cons_zero, List.set_cons_succ]
  refine wpAnyH_ready (rs := [14]) (by kernel_rfl) (by simp) ?_
  refine AllReadyH.cons rfl (fun K hK => ?_) AllReadyH.nil
  go_simp
  refine (HOB.out _ hS).mono ?_
  rintro e w13 ⟨dv13, rfl, ho13, hb13⟩
  have hT : Below w6.heap.size w6 w13 := hS.trans (hb13.mono hS.size)
  have HPB := Lib.hid (plain_any b dv13 w13 ho13.secs LB.out)
  have HA13 := Lib.hid (HA12.out.below hb13)
  unfold Cmd.val at HPB
  clear hb13 ho13 HA12
  go_wp2_with (fail)
  refine hK.out _ _ hT (fun hU => ?_)
  clear hK K hU hS
  have hS := hT
  clear hT
  try simp only [Act.put, List.getElem_toArray, List.getElem_cons_succ, List.getElem_cons_zero, List.setIfInBounds_toArray, List.set_cons_zero, List.set_cons_succ]
  refine wpAnyH_ready (rs := [15]) (by kernel_rfl) (by simp) ?_
  refine AllReadyH.cons rfl (fun K hK => ?_) AllReadyH.nil
  go_simp
  refine (HPB.out).mono ?_
  rintro e w14 ⟨dv14, rfl, ho14, hb14⟩
  have hT : Below w6.heap.size w6 w14 := hS.trans (hb14.mono hS.size)
  have HSM := Lib.hid (same_yes a.plain dv12 dv14 w14 (HA13.out.below hb14) (by rw [HEP.out]; exact Rd.of_own ho14))
  have HSM : Hid (Calls Try.prog 14 #[a.plain.val dv12, b.plain.val dv14] w14 fun e w' => e = .returned (.bool true) ∧ Below w14.heap.size w14 w') := Lib.hid (by have h := HSM.out; rw [← HEP.out]; exact h)
  unfold Cmd.val at HSM
  clear hb14 ho14 HPB HA13
  go_wp2_with (fail)
  refine hK.out _ _ hT (fun hU => ?_)
  clear hK K hU hS
  have hS := hT
  clear hT
  try simp only [Act.put, List.getElem_toArray, List.getElem_cons_succ, List.getElem_cons_zero, List.setIfInBounds_toArray, List.set_cons_zero, List.set_cons_succ]
  refine wpAnyH_ready (rs := [16]) (by kernel_rfl) (by simp) ?_
  refine AllReadyH.cons rfl (fun K hK => ?_) AllReadyH.nil
  go_simp
  refine (HSM.out).mono ?_
  rintro e w15 ⟨rfl, hb15⟩
  have hT : Below w6.heap.size w6 w15 := hS.trans (hb15.mono hS.size)
  clear hb15 HSM
  go_wp2_with (fail)
  refine hK.out _ _ hT (fun hU => ?_)
  clear hK K hU hS
  have hS := hT
  clear hT
  try simp only [Act.put, List.getElem_toArray, List.getElem_cons_succ, List.getElem_cons_zero, List.setIfInBounds_toArray, List.set_cons_zero, List.set_cons_succ]
  refine wpAnyH_take (i := 17) (v := ?_) rfl (by kernel_rfl) (by kernel_rfl) (by kernel_rfl) (fun _ _ _ h => h) (Or.inl ⟨by rfl, ?_⟩) hS ?_
  rotate_left
  · intro w' hSw; go_simp; try rfl
  try simp only [Act.put, List.getElem_toArray, List.getElem_cons_succ, List.getElem_cons_zero, List.setIfInBounds_toArray, List.set_cons_zero, List.set_cons_succ]
  refine wpAnyH_take (i := 18) (v := ?_) rfl (by kernel_rfl) (by kernel_rfl) (by kernel_rfl) (fun _ _ _ h => h) (Or.inl ⟨by rfl, ?_⟩) hS ?_
  rotate_left
  · intro w' hSw; go_simp; try rfl
  try simp only [Act.put, List.getElem_toArray, List.getElem_cons_succ, List.getElem_cons_zero, List.setIfInBounds_toArray, List.set_cons_zero, List.set_cons_succ]
  refine wpAnyH_done (by kernel_rfl) ?_ _
  go_upto_region 9 with (fail)
  have BW := Lib.hid (KA6.out.below.trans (hS.mono KA6.out.below.size))
  have RX := Lib.hid (RX6.out.below hS)
  clear KA6 KB6 RX6 RY6 HSB HOA HOB hS hS0
  have HNA : Hid (a.plain.bytes.length = 20 + a.plain.bs.length) := Lib.hid (bytes_length _)
  have HN8 : Hid (a.plain.bytes.length ≤ 148) := Lib.hid (by have h := HNA.out; have h2 := (wf_plain _ WA.out).2; have h3 := OKA.out.2.2.2.2.2.2.2.2; omega)
  have HCB : Hid (∀ x ∈ a.plain.bytes, 0 ≤ x ∧ x ≤ 255) := Lib.hid (bytes_range _ OKA.out (plain_range _ RA.out))
  have HLW := Lib.hid (dec_bytes a OKA.out WA.out)
  have HCN := Lib.hid (cut_no a.plain (wf_plain _ WA.out).2)
  have HMN := Lib.hid (more_no a.plain (wf_plain _ WA.out).2)
  have hna0 : 0 < a.plain.bytes.length := by have := HNA.out; omega
  clear HNA
  generalize hLL : a.plain.bytes = LX at *
  clear hLL
  generalize hnn : LX.length = nx at *
  have hnx63 : nx ≤ 148 := HN8.out
  have HNN := Lib.hid hnn
  clear hnn
  obtain ⟨m, hmm⟩ : ∃ m : Nat, Int.tmod cut (nx : Int) = (m : Int) := ⟨(Int.tmod cut (nx : Int)).toNat, by rw [Int.toNat_of_nonneg (Int.tmod_nonneg _ hc0)]⟩
  have hmn : m < nx := by have := Int.tmod_lt_of_pos cut (show (0 : Int) < (nx : Int) by omega); omega
  have hmm2 : cut % (nx : Int) = (m : Int) := by rw [← Int.tmod_eq_emod_of_nonneg hc0]; exact hmm
  have HD1 := Lib.hid (dec_any (.slice (some ⟨ra, 0, none⟩) m ca) m (LX.take m) w15 (RX.out.take (by omega)) (fun x hx => HCB.out x (List.mem_of_mem_take hx)))
  have hcut : IntKind.i64.wrap cut = cut := i64_small _ hc0 (by omega)
  have g1 : ¬ (nx : Int) = 0 := by omega
  have g3 : m ≤ ca := by omega
  have g5 : (m : Int) ≤ (ca : Int) := by omega
  go_wp2_with (fail)
  refine (HD1.out).mono ?_
  rintro e w20 hdp
  obtain ⟨hno, _, _⟩ | ⟨_, rfl, hb20⟩ := hdp
  · exact absurd hno (HCN.out m (by omega))
  unfold Cmd.val
  clear HD1 hmm hmm2 hcut g1 g3 g5
  have B20 := Lib.hid (BW.out.trans (hb20.mono BW.out.size))
  have RX20 := Lib.hid (RX.out.below hb20)
  clear hb20 BW RX
  go_upto_region 10 with (refine wpList_store_row rfl 25 _ _ rfl w20.heap.size _ rfl rfl 25 _ (heap_alloc_new w20 _) (by kernel_rfl) rfl (row_one _ _ _ _ _ _ _ _ _) ?_)
  have hn21 := (new_row w20 #[.int .i64 0, .int .i64 0, .int .i64 0, .slice none 0 0, .int .u64 0, .int .i64 0, .bool false] #[.int .i64 czero.kind, .int .i64 czero.lba, .int .i64 czero.count, .slice none 0 0, .int .u64 czero.key, .int .i64 czero.res, .bool czero.keep]).2
  generalize World.setRow _ _ _ = w21 at hn21 ⊢
  have B21 := Lib.hid (B20.out.trans (hn21.mono B20.out.size))
  have RX21 := Lib.hid (RX20.out.below hn21)
  clear hn21 B20 RX20
  obtain ⟨v22, w22, hr22, ho22, hb22⟩ := copy_bytes w21 _ _ _ RX21.out (u8s_one _) (by omega)
  have B22 := Lib.hid (B21.out.trans (hb22.mono B21.out.size))
  obtain ⟨v23, w23, hr23, ho23, hg23, hk23⟩ := cat_bytes w22 _ _ _ _ (.slice Am nm cm) nm (u8s ms) ho22 (HM.out.below B22.out) (u8s_one _) (by have := LM.out; omega) hb22.size
  have B23 : Hid (Below w.heap.size w w23) := Lib.hid (Only.below B22.out (Only.grown hg23) B22.out.size (fun q hq => by have := (ho22.lt q (by simpa using hq)).1; have := B21.out.size; omega))
  have HR22 := Lib.hid hr22
  have HR23 := Lib.hid hr23
  have ho23 : w23.ownsRow w21.heap.size 5 1 v23 (nx + nm) (u8s (LX ++ ms)) := by unfold u8s at *; rw [List.map_append]; exact ho23
  have HD2 := Lib.hid (dec_any v23 (nx + nm) (LX ++ ms) w23 (Rd.of_own ho23) (fun x hx => by rcases List.mem_append.1 hx with h | h; exact HCB.out x h; exact RM.out x h))
  clear hr22 hr23 ho22 hb22 hg23 hk23 ho23 B21 B22 RX21
  go_wp2_with (first
    | (at_builtin; refine wpList_append_ran rfl (.tmp 67) (.tmp 68) 26 rfl _ _ rfl rfl _ _ HR22.out ?_)
    | (at_builtin; refine wpList_append_ran rfl (.tmp 69) (.tmp 70) 26 rfl _ _ rfl rfl _ _ HR23.out ?_))
  refine (HD2.out).mono ?_
  rintro e w24 hdp
  have hml : ms.length = nm := HM.out.blen
  by_cases hz : nm = 0
  · obtain rfl : ms = [] := List.eq_nil_of_length_eq_zero (by omega)
    obtain rfl := hz
    rw [List.append_nil] at hdp
    obtain ⟨_, dv24, rfl, ho24, hb24⟩ | ⟨hno, _, _⟩ := hdp
    rotate_left
    · exact absurd HLW.out.2 hno
    obtain ⟨A24, c24, rfl, _, _⟩ := own_form ho24
    have B24 := Lib.hid (B23.out.trans (hb24.mono B23.out.size))
    clear hb24 ho24 B23 HR22 HR23 HD2
    unfold Cmd.val
    go_wp2_with (refine wpList_store_row rfl 25 _ _ rfl w24.heap.size _ rfl rfl 25 _ (heap_alloc_new w24 _) (by kernel_rfl) rfl (row_one _ _ _ _ _ _ _ _ _) ?_)
    go_ret
    exact ⟨rfl, B24.out.trans ((new_row w24 _ _).2.mono B24.out.size)⟩
  · obtain ⟨hno, _, _⟩ | ⟨_, rfl, hb24⟩ := hdp
    · exact absurd hno (HMN.out ms (by omega))
    have B24 := Lib.hid (B23.out.trans (hb24.mono B23.out.size))
    have hz2 : ((nm : Int) == 0) = false := bF (by omega)
    clear hb24 B23 HR22 HR23 HD2
    unfold Cmd.val
    go_wp2_with (refine wpList_store_row rfl 25 _ _ rfl w24.heap.size _ rfl rfl 25 _ (heap_alloc_new w24 _) (by kernel_rfl) rfl (row_one _ _ _ _ _ _ _ _ _) ?_)
    go_ret
    exact ⟨rfl, B24.out.trans ((new_row w24 _ _).2.mono B24.out.size)⟩
set_option maxRecDepth 100000 in
set_option maxHeartbeats 8000000 in
theorem unlike_4 (a b : Cmd) (da db vm : Value) (nm : Nat) (ms : List Int) (cut : Int) (w : World) (ha : Secs w da a) (hb : Secs w db b) (la : a.n * 16 ≤ 140737488355328) (lb : b.n * 16 ≤ 140737488355328)
    (ra : ∀ x ∈ a.bs, 0 ≤ x ∧ x ≤ 255) (rb : ∀ x ∈ b.bs, 0 ≤ x ∧ x ≤ 255) (wa : a.wf) (wb : b.wf) (hm : Rd w vm nm 1 (u8s ms)) (lm : nm ≤ 140737488355328 - 4096) (rm : ∀ x ∈ ms, 0 ≤ x ∧ x ≤ 255) (hc0 : 0 ≤ cut) (hc1 : cut ≤ 255) (hoka : a.plain.ok) (hokb : b.plain.ok) (hep : a.plain ≠ b.plain) :
    Calls Try.prog 5 #[a.val da, b.val db, vm, .int .u8 cut] w fun e w' => e = .returned (.bool true) ∧ Below w.heap.size w w' := by
  have HEP := Lib.hid hep
  have HEB : Hid (a.plain.bytes ≠ b.plain.bytes) := Lib.hid (fun h => hep (bytes_inj _ _ hoka hokb (wf_plain _ wa) (wf_plain _ wb) h))
  clear hep
  have KA1 : Hid (Kp w ((w.alloc (.cells #[.int .i64 a.kind, .int .i64 a.lba, .int .i64 a.count, da, .int .u64 a.key, .int .i64 a.res, .bool a.keep] 25)).alloc (.cells #[.int .i64 b.kind, .int .i64 b.lba, .int .i64 b.count, db, .int .u64 b.key, .int .i64 b.res, .bool b.keep] 25)) w.heap.size #[.int .i64 a.kind, .int .i64 a.lba, .int .i64 a.count, da, .int .u64 a.key, .int .i64 a.res, .bool a.keep] da a) := Lib.hid ⟨two_first w _ _, ha.below (two_below w _ _), two_below w _ _⟩
  have KB1 : Hid (Kp w ((w.alloc (.cells #[.int .i64 a.kind, .int .i64 a.lba, .int .i64 a.count, da, .int .u64 a.key, .int .i64 a.res, .bool a.keep] 25)).alloc (.cells #[.int .i64 b.kind, .int .i64 b.lba, .int .i64 b.count, db, .int .u64 b.key, .int .i64 b.res, .bool b.keep] 25)) (w.heap.size + 1) #[.int .i64 b.kind, .int .i64 b.lba, .int .i64 b.count, db, .int .u64 b.key, .int .i64 b.res, .bool b.keep] db b) := Lib.hid ⟨two_last w _ _, hb.below (two_below w _ _), two_below w _ _⟩
  have OKA := Lib.hid hoka
  have OKB := Lib.hid hokb
  have LA := Lib.hid la
  have LB := Lib.hid lb
  have RA := Lib.hid ra
  have RB := Lib.hid rb
  have WA := Lib.hid wa
  have WB := Lib.hid wb
  have HM := Lib.hid hm
  have LM := Lib.hid lm
  have RM := Lib.hid rm
  obtain ⟨Am, cm, rfl, hm1, hm2, _⟩ := hm.bform
  have hnm : nm ≤ 9223372036854775807 := by omega
  clear ha hb la lb ra rb wa wb hm lm rm hoka hokb hm1 hm2
  unfold Cmd.val
  go_enter Try.func5, Try.ntmps5
  go_upto_region 1 with (fail)
  generalize (w.alloc _).alloc _ = w1 at *
  have HO := Lib.hid (own_any a da w1 KA1.out.secs LA.out)
  unfold Cmd.val at HO
  go_wp2_with (refine wpList_load_row rfl 25 (.tmp 4) rfl w.heap.size rfl 25 _ (0, 0) _ KA1.out.box Try.underlying25 rfl (by kernel_rfl) ?_)
  with_reducible refine (HO.out).mono ?_
  rintro e w2 ⟨dv2, rfl, ho2, hb2⟩
  have HC := Lib.hid (enc_ok a dv2 w2 ho2.secs LA.out OKA.out)
  clear ho2 HO
  unfold Cmd.val at HC
  have KA2 := Lib.hid (KA1.out.kept hb2)
  have KB2 := Lib.hid (KB1.out.kept hb2)
  clear hb2 KA1 KB1
  go_wp2_with (fail)
  with_reducible refine (HC.out).mono ?_
  rintro e w3 ⟨va, rfl, ho, hb3⟩
  have HXa := Lib.hid ho
  have RX3 := Lib.hid (Rd.of_own ho)
  clear ho HC
  obtain ⟨Aa, ca, rfl, hna, hca⟩ := own_form HXa.out
  obtain ⟨ra, rfl, _, _⟩ := own_addr HXa.out (by rw [bytes_length]; omega)
  clear HXa
  have KA3 := Lib.hid (KA2.out.kept hb3)
  have KB3 := Lib.hid (KB2.out.kept hb3)
  clear hb3 KA2 KB2
  have HO := Lib.hid (own_any b db w3 KB3.out.secs LB.out)
  unfold Cmd.val at HO
  go_wp2_with (refine wpList_load_row rfl 25 (.tmp 5) rfl (w.heap.size + 1) rfl 25 _ (0, 0) _ KB3.out.box Try.underlying25 rfl (by kernel_rfl) ?_)
  with_reducible refine (HO.out).mono ?_
  rintro e w4 ⟨dv4, rfl, ho4, hb4⟩
  have HC := Lib.hid (enc_ok b dv4 w4 ho4.secs LB.out OKB.out)
  clear ho4 HO
  unfold Cmd.val at HC
  have KA4 := Lib.hid (KA3.out.kept hb4)
  have KB4 := Lib.hid (KB3.out.kept hb4)
  have RX4 := Lib.hid (RX3.out.below hb4)
  clear hb4 KA3 KB3 RX3
  go_wp2_with (fail)
  with_reducible refine (HC.out).mono ?_
  rintro e w5 ⟨vb, rfl, ho, hb5⟩
  have HXb := Lib.hid ho
  have RY5 := Lib.hid (Rd.of_own ho)
  clear ho HC
  clear HXb
  have KA5 := Lib.hid (KA4.out.kept hb5)
  have KB5 := Lib.hid (KB4.out.kept hb5)
  have RX5 := Lib.hid (RX4.out.below hb5)
  clear hb5 KA4 KB4 RX4
  go_wp2_with (fail)
  refine (awake_any _).mono ?_
  rintro e w6 ⟨rfl, hb6⟩
  have KA6 := Lib.hid (KA5.out.kept hb6)
  have KB6 := Lib.hid (KB5.out.kept hb6)
  have RX6 := Lib.hid (RX5.out.below hb6)
  have RY6 := Lib.hid (RY5.out.below hb6)
  clear hb6 KA5 KB5 RX5 RY5
  go_upto_region 5 with (fail)
  have hS0 : Below w6.heap.size w6 w6.drew := (Below.refl _ _).drew
  have HSB := Lib.hid (fun (W : World) (hW : Below w6.heap.size w6 W) => (show Calls Try.prog 12 #[.slice (some ⟨ra, 0, none⟩) a.plain.bytes.length ca, vb] W fun e w' => e = .returned (.bool false) ∧ Below W.heap.size W w' from (same_bytes _ _ _ _ _ _ W (RX6.out.below hW) (RY6.out.below hW)).mono (fun e w' h => by rw [decide_eq_false HEB.out] at h; exact h)))
  have HOA := Lib.hid (fun (W : World) (hW : Below w6.heap.size w6 W) => own_any a da W (KA6.out.secs.below hW) LA.out)
  have HOB := Lib.hid (fun (W : World) (hW : Below w6.heap.size w6 W) => own_any b db W (KB6.out.secs.below hW) LB.out)
  unfold Cmd.val at HOA HOB
  refine wp_region_held_drew (S := fun W => Below w6.heap.size w6 W) (by kernel_rfl) hS0 (fun hS => ?_)
  refine wpAnyH_take (i := 0) (v := ?_) rfl (by kernel_rfl) (by kernel_rfl) (by kernel_rfl) (fun _ _ _ h => h) (Or.inl ⟨by rfl, ?_⟩) hS ?_
  rotate_left
  · intro w' hSw; go_simp; try rfl
  try simp only [Act.put, List.getElem_toArray, List.getElem_cons_succ, List.getElem_cons_zero, List.setIfInBounds_toArray, List.set_cons_zero, List.set_cons_succ]
  refine wpAnyH_take (i := 1) (v := ?_) rfl (by kernel_rfl) (by kernel_rfl) (by kernel_rfl) (fun _ _ _ h => h) (Or.inl ⟨by rfl, ?_⟩) hS ?_
  rotate_left
  · intro w' hSw; go_simp; try rfl
  try simp only [Act.put, List.getElem_toArray, List.getElem_cons_succ, List.getElem_cons_zero, List.setIfInBounds_toArray, List.set_cons_zero, List.set_cons_succ]
  refine wpAnyH_take (i := 2) (v := ?_) rfl (by kernel_rfl) (by kernel_rfl) (by kernel_rfl) (fun _ _ _ h => h) (Or.inl ⟨by rfl, ?_⟩) hS ?_
  rotate_left
  · intro w' hSw; go_simp; try rfl
  try simp only [Act.put, List.getElem_toArray, List.getElem_cons_succ, List.getElem_cons_zero, List.setIfInBounds_toArray, List.set_cons_zero, List.set_cons_succ]
  refine wpAnyH_take (i := 3) (v := ?_) rfl (by kernel_rfl) (by kernel_rfl) (by kernel_rfl) (fun _ _ _ h => h) (Or.inl ⟨by rfl, ?_⟩) hS ?_
  rotate_left
  · intro w' hSw; go_simp; try rfl
  try simp only [Act.put, List.getElem_toArray, List.getElem_cons_succ, List.getElem_cons_zero, List.setIfInBounds_toArray, List.set_cons_zero, List.set_cons_succ]
  refine wpAnyH_take (i := 4) (v := ?_) rfl (by kernel_rfl) (by kernel_rfl) (by kernel_rfl) (fun _ _ _ h => h) (Or.inl ⟨by rfl, ?_⟩) hS ?_
  rotate_left
  · intro w' hSw; go_simp; try rfl
  try simp only [Act.put, List.getElem_toArray, List.getElem_cons_succ, List.getElem_cons_zero, List.setIfInBounds_toArray, List.set_cons_zero, List.set_cons_succ]
  refine wpAnyH_take (i := 5) (v := ?_) rfl (by kernel_rfl) (by kernel_rfl) (by kernel_rfl) (fun _ _ _ h => h) (Or.inl ⟨by rfl, ?_⟩) hS ?_
  rotate_left
  · intro w' hSw; go_simp; try rfl
  try simp only [Act.put, List.getElem_toArray, List.getElem_cons_succ, List.getElem_cons_zero, List.setIfInBounds_toArray, List.set_cons_zero, List.set_cons_succ]
  refine wpAnyH_take (i := 6) (v := ?_) rfl (by kernel_rfl) (by kernel_rfl) (by kernel_rfl) (fun _ _ _ h => h) (Or.inl ⟨by rfl, ?_⟩) hS ?_
  rotate_left
  · intro w' hSw; go_simp; try rfl
  try simp only [Act.put, List.getElem_toArray, List.getElem_cons_succ, List.getElem_cons_zero, List.setIfInBounds_toArray, List.set_cons_zero, List.set_cons_succ]
  refine wpAnyH_take (i := 7) (v := ?_) rfl (by kernel_rfl) (by kernel_rfl) (by kernel_rfl) (fun _ _ _ h => h) (Or.inl ⟨by rfl, ?_⟩) hS ?_
  rotate_left
  · intro w' hSw; go_simp; try rfl
  try simp only [Act.put, List.getElem_toArray, List.getElem_cons_succ, List.getElem_cons_zero, List.setIfInBounds_toArray, List.set_cons_zero, List.set_cons_succ]
  refine wpAnyH_take (i := 8) (v := ?_) rfl (by kernel_rfl) (by kernel_rfl) (by kernel_rfl) (fun _ _ _ h => h) (Or.inl ⟨by rfl, ?_⟩) hS ?_
  rotate_left
  · intro w' hSw; go_simp; try rfl
  try simp only [Act.put, List.getElem_toArray, List.getElem_cons_succ, List.getElem_cons_zero, List.setIfInBounds_toArray, List.set_cons_zero, List.set_cons_succ]
  refine wpAnyH_take (i := 10) (v := .agg #[.int .i64 a.kind, .int .i64 a.lba, .int .i64 a.count, da, .int .u64 a.key, .int .i64 a.res, .bool a.keep]) rfl (by kernel_rfl) (by kernel_rfl) (by kernel_rfl) (fun _ _ _ h => h) (Or.inl ⟨by rfl, fun w' hSw => ?_⟩) hS ?_
  · exact exec_load_row 25 _ rfl w.heap.size rfl 25 _ (0, 0) _ ((hSw.block _ (lt_of_heap KA6.out.box)).trans KA6.out.box) Try.underlying25 rfl (by kernel_rfl)
  try simp only [Act.put, List.getElem_toArray, List.getElem_cons_succ, List.getElem_cons_zero, List.setIfInBounds_toArray, List.set_cons_zero, List.set_cons_succ]
  refine wpAnyH_take (i := 13) (v := .agg #[.int .i64 b.kind, .int .i64 b.lba, .int .i64 b.count, db, .int .u64 b.key, .int .i64 b.res, .bool b.keep]) rfl (by kernel_rfl) (by kernel_rfl) (by kernel_rfl) (fun _ _ _ h => h) (Or.inl ⟨by rfl, fun w' hSw => ?_⟩) hS ?_
  · exact exec_load_row 25 _ rfl (w.heap.size + 1) rfl 25 _ (0, 0) _ ((hSw.block _ (lt_of_heap KB6.out.box)).trans KB6.out.box) Try.underlying25 rfl (by kernel_rfl)
  try simp only [Act.put, List.getElem_toArray, List.getElem_cons_succ, List.getElem_cons_zero, List.setIfInBounds_toArray, List.set_cons_zero, List.set_cons_succ]
  refine wpAnyH_ready (rs := [9]) (by kernel_rfl) (by simp) ?_
  refine AllReadyH.cons rfl (fun K hK => ?_) AllReadyH.nil
  go_simp
  refine (HSB.out _ hS).mono ?_
  rintro e w10 ⟨rfl, hb10⟩
  have hT : Below w6.heap.size w6 w10 := hS.trans (hb10.mono hS.size)
  clear hb10
  go_wp2_with (fail)
  refine hK.out _ _ hT (fun hU => ?_)
  clear hK K hU hS
  have hS := hT
  clear hT
  try simp only [Act.put, List.getElem_toArray, List.getElem_cons_succ, List.getElem_cons_zero, List.setIfInBounds_toArray, List.set_cons_zero, List.set_cons_succ]
  refine wpAnyH_ready (rs := [11]) (by kernel_rfl) (by simp) ?_
  refine AllReadyH.cons rfl (fun K hK => ?_) AllReadyH.nil
  go_simp
  refine (HOA.out _ hS).mono ?_
  rintro e w11 ⟨dv11, rfl, ho11, hb11⟩
  have hT : Below w6.heap.size w6 w11 := hS.trans (hb11.mono hS.size)
  have HPA := Lib.hid (plain_any a dv11 w11 ho11.secs LA.out)
  unfold Cmd.val at HPA
  clear hb11 ho11
  go_wp2_with (fail)
  refine hK.out _ _ hT (fun hU => ?_)
  clear hK K hU hS
  have hS := hT
  clear hT
  try simp only [Act.put, List.getElem_toArray, List.getElem_cons_succ, List.getElem_cons_zero, List.setIfInBounds_toArray, List.set_cons_zero, List.set_cons_succ]
  refine wpAnyH_ready (rs := [12]) (by kernel_rfl) (by simp) ?_
  refine AllReadyH.cons rfl (fun K hK => ?_) AllReadyH.nil
  go_simp
  refine (HPA.out).mono ?_
  rintro e w12 ⟨dv12, rfl, ho12, hb12⟩
  have hT : Below w6.heap.size w6 w12 := hS.trans (hb12.mono hS.size)
  have HA12 := Lib.hid (show Secs w12 dv12 a.plain from Rd.of_own ho12)
  clear hb12 ho12 HPA
  go_wp2_with (fail)
  refine hK.out _ _ hT (fun hU => ?_)
  clear hK K hU hS
  have hS := hT
  clear hT
  try simp only [Act.put, List.getElem_toArray, List.getElem_cons_succ, List.getElem_cons_zero, List.setIfInBounds_toArray, List.set_cons_zero, List.set_cons_succ]
  refine wpAnyH_ready (rs := [14]) (by kernel_rfl) (by simp) ?_
  refine AllReadyH.cons rfl (fun K hK => ?_) AllReadyH.nil
  go_simp
  refine (HOB.out _ hS).mono ?_
  rintro e w13 ⟨dv13, rfl, ho13, hb13⟩
  have hT : Below w6.heap.size w6 w13 := hS.trans (hb13.mono hS.size)
  have HPB := Lib.hid (plain_any b dv13 w13 ho13.secs LB.out)
  have HA13 := Lib.hid (HA12.out.below hb13)
  unfold Cmd.val at HPB
  clear hb13 ho13 HA12
  go_wp2_with (fail)
  refine hK.out _ _ hT (fun hU => ?_)
  clear hK K hU hS
  have hS := hT
  clear hT
  try simp only [Act.put, List.getElem_toArray, List.getElem_cons_succ, List.getElem_cons_zero, List.setIfInBounds_toArray, List.set_cons_zero, List.set_cons_succ]
  refine wpAnyH_ready (rs := [15]) (by kernel_rfl) (by simp) ?_
  refine AllReadyH.cons rfl (fun K hK => ?_) AllReadyH.nil
  go_simp
  refine (HPB.out).mono ?_
  rintro e w14 ⟨dv14, rfl, ho14, hb14⟩
  have hT : Below w6.heap.size w6 w14 := hS.trans (hb14.mono hS.size)
  have HSM := Lib.hid (same_no a.plain b.plain dv12 dv14 w14 (HA13.out.below hb14) (Rd.of_own ho14) HEP.out)
  unfold Cmd.val at HSM
  clear hb14 ho14 HPB HA13
  go_wp2_with (fail)
  refine hK.out _ _ hT (fun hU => ?_)
  clear hK K hU hS
  have hS := hT
  clear hT
  try simp only [Act.put, List.getElem_toArray, List.getElem_cons_succ, List.getElem_cons_zero, List.setIfInBounds_toArray, List.set_cons_zero, List.set_cons_succ]
  refine wpAnyH_ready (rs := [16]) (by kernel_rfl) (by simp) ?_
  refine AllReadyH.cons rfl (fun K hK => ?_) AllReadyH.nil
  go_simp
  refine (HSM.out).mono ?_
  rintro e w15 ⟨rfl, hb15⟩
  have hT : Below w6.heap.size w6 w15 := hS.trans (hb15.mono hS.size)
  clear hb15 HSM
  go_wp2_with (fail)
  refine hK.out _ _ hT (fun hU => ?_)
  clear hK K hU hS
  have hS := hT
  clear hT
  try simp only [Act.put, List.getElem_toArray, List.getElem_cons_succ, List.getElem_cons_zero, List.setIfInBounds_toArray, List.set_cons_zero, List.set_cons_succ]
  refine wpAnyH_take (i := 17) (v := ?_) rfl (by kernel_rfl) (by kernel_rfl) (by kernel_rfl) (fun _ _ _ h => h) (Or.inl ⟨by rfl, ?_⟩) hS ?_
  rotate_left
  · intro w' hSw; go_simp; try rfl
  try simp only [Act.put, List.getElem_toArray, List.getElem_cons_succ, List.getElem_cons_zero, List.setIfInBounds_toArray, List.set_cons_zero, List.set_cons_succ]
  refine wpAnyH_take (i := 18) (v := ?_) rfl (by kernel_rfl) (by kernel_rfl) (by kernel_rfl) (fun _ _ _ h => h) (Or.inl ⟨by rfl, ?_⟩) hS ?_
  rotate_left
  · intro w' hSw; go_simp; try rfl
  try simp only [Act.put, List.getElem_toArray, List.getElem_cons_succ, List.getElem_cons_zero, List.setIfInBounds_toArray, List.set_cons_zero, List.set_cons_succ]
  refine wpAnyH_done (by kernel_rfl) ?_ _
  go_upto_region 9 with (fail)
  have BW := Lib.hid (KA6.out.below.trans (hS.mono KA6.out.below.size))
  have RX := Lib.hid (RX6.out.below hS)
  clear KA6 KB6 RX6 RY6 HSB HOA HOB hS hS0
  have HNA : Hid (a.plain.bytes.length = 20 + a.plain.bs.length) := Lib.hid (bytes_length _)
  have HN8 : Hid (a.plain.bytes.length ≤ 148) := Lib.hid (by have h := HNA.out; have h2 := (wf_plain _ WA.out).2; have h3 := OKA.out.2.2.2.2.2.2.2.2; omega)
  have HCB : Hid (∀ x ∈ a.plain.bytes, 0 ≤ x ∧ x ≤ 255) := Lib.hid (bytes_range _ OKA.out (plain_range _ RA.out))
  have HLW := Lib.hid (dec_bytes a OKA.out WA.out)
  have HCN := Lib.hid (cut_no a.plain (wf_plain _ WA.out).2)
  have HMN := Lib.hid (more_no a.plain (wf_plain _ WA.out).2)
  have hna0 : 0 < a.plain.bytes.length := by have := HNA.out; omega
  clear HNA
  generalize hLL : a.plain.bytes = LX at *
  clear hLL
  generalize hnn : LX.length = nx at *
  have hnx63 : nx ≤ 148 := HN8.out
  have HNN := Lib.hid hnn
  clear hnn
  obtain ⟨m, hmm⟩ : ∃ m : Nat, Int.tmod cut (nx : Int) = (m : Int) := ⟨(Int.tmod cut (nx : Int)).toNat, by rw [Int.toNat_of_nonneg (Int.tmod_nonneg _ hc0)]⟩
  have hmn : m < nx := by have := Int.tmod_lt_of_pos cut (show (0 : Int) < (nx : Int) by omega); omega
  have hmm2 : cut % (nx : Int) = (m : Int) := by rw [← Int.tmod_eq_emod_of_nonneg hc0]; exact hmm
  have HD1 := Lib.hid (dec_any (.slice (some ⟨ra, 0, none⟩) m ca) m (LX.take m) w15 (RX.out.take (by omega)) (fun x hx => HCB.out x (List.mem_of_mem_take hx)))
  have hcut : IntKind.i64.wrap cut = cut := i64_small _ hc0 (by omega)
  have g1 : ¬ (nx : Int) = 0 := by omega
  have g3 : m ≤ ca := by omega
  have g5 : (m : Int) ≤ (ca : Int) := by omega
  go_wp2_with (fail)
  refine (HD1.out).mono ?_
  rintro e w20 hdp
  obtain ⟨hno, _, _⟩ | ⟨_, rfl, hb20⟩ := hdp
  · exact absurd hno (HCN.out m (by omega))
  unfold Cmd.val
  clear HD1 hmm hmm2 hcut g1 g3 g5
  have B20 := Lib.hid (BW.out.trans (hb20.mono BW.out.size))
  have RX20 := Lib.hid (RX.out.below hb20)
  clear hb20 BW RX
  go_upto_region 10 with (refine wpList_store_row rfl 25 _ _ rfl w20.heap.size _ rfl rfl 25 _ (heap_alloc_new w20 _) (by kernel_rfl) rfl (row_one _ _ _ _ _ _ _ _ _) ?_)
  have hn21 := (new_row w20 #[.int .i64 0, .int .i64 0, .int .i64 0, .slice none 0 0, .int .u64 0, .int .i64 0, .bool false] #[.int .i64 czero.kind, .int .i64 czero.lba, .int .i64 czero.count, .slice none 0 0, .int .u64 czero.key, .int .i64 czero.res, .bool czero.keep]).2
  generalize World.setRow _ _ _ = w21 at hn21 ⊢
  have B21 := Lib.hid (B20.out.trans (hn21.mono B20.out.size))
  have RX21 := Lib.hid (RX20.out.below hn21)
  clear hn21 B20 RX20
  obtain ⟨v22, w22, hr22, ho22, hb22⟩ := copy_bytes w21 _ _ _ RX21.out (u8s_one _) (by omega)
  have B22 := Lib.hid (B21.out.trans (hb22.mono B21.out.size))
  obtain ⟨v23, w23, hr23, ho23, hg23, hk23⟩ := cat_bytes w22 _ _ _ _ (.slice Am nm cm) nm (u8s ms) ho22 (HM.out.below B22.out) (u8s_one _) (by have := LM.out; omega) hb22.size
  have B23 : Hid (Below w.heap.size w w23) := Lib.hid (Only.below B22.out (Only.grown hg23) B22.out.size (fun q hq => by have := (ho22.lt q (by simpa using hq)).1; have := B21.out.size; omega))
  have HR22 := Lib.hid hr22
  have HR23 := Lib.hid hr23
  have ho23 : w23.ownsRow w21.heap.size 5 1 v23 (nx + nm) (u8s (LX ++ ms)) := by unfold u8s at *; rw [List.map_append]; exact ho23
  have HD2 := Lib.hid (dec_any v23 (nx + nm) (LX ++ ms) w23 (Rd.of_own ho23) (fun x hx => by rcases List.mem_append.1 hx with h | h; exact HCB.out x h; exact RM.out x h))
  clear hr22 hr23 ho22 hb22 hg23 hk23 ho23 B21 B22 RX21
  go_wp2_with (first
    | (at_builtin; refine wpList_append_ran rfl (.tmp 67) (.tmp 68) 26 rfl _ _ rfl rfl _ _ HR22.out ?_)
    | (at_builtin; refine wpList_append_ran rfl (.tmp 69) (.tmp 70) 26 rfl _ _ rfl rfl _ _ HR23.out ?_))
  refine (HD2.out).mono ?_
  rintro e w24 hdp
  have hml : ms.length = nm := HM.out.blen
  by_cases hz : nm = 0
  · obtain rfl : ms = [] := List.eq_nil_of_length_eq_zero (by omega)
    obtain rfl := hz
    rw [List.append_nil] at hdp
    obtain ⟨_, dv24, rfl, ho24, hb24⟩ | ⟨hno, _, _⟩ := hdp
    rotate_left
    · exact absurd HLW.out.2 hno
    obtain ⟨A24, c24, rfl, _, _⟩ := own_form ho24
    have B24 := Lib.hid (B23.out.trans (hb24.mono B23.out.size))
    clear hb24 ho24 B23 HR22 HR23 HD2
    unfold Cmd.val
    go_wp2_with (refine wpList_store_row rfl 25 _ _ rfl w24.heap.size _ rfl rfl 25 _ (heap_alloc_new w24 _) (by kernel_rfl) rfl (row_one _ _ _ _ _ _ _ _ _) ?_)
    go_ret
    exact ⟨rfl, B24.out.trans ((new_row w24 _ _).2.mono B24.out.size)⟩
  · obtain ⟨hno, _, _⟩ | ⟨_, rfl, hb24⟩ := hdp
    · exact absurd hno (HMN.out ms (by omega))
    have B24 := Lib.hid (B23.out.trans (hb24.mono B23.out.size))
    have hz2 : ((nm : Int) == 0) = false := bF (by omega)
    clear hb24 B23 HR22 HR23 HD2
    unfold Cmd.val
    go_wp2_with (refine wpList_store_row rfl 25 _ _ rfl w24.heap.size _ rfl rfl 25 _ (heap_alloc_new w24 _) (by kernel_rfl) rfl (row_one _ _ _ _ _ _ _ _ _) ?_)
    go_ret
    exact ⟨rfl, B24.out.trans ((new_row w24 _ _).2.mono B24.out.size)⟩
theorem wf_of {w : World} {c : Cmd} {dv : Value} (hk : 0 ≤ c.key ∧ c.key < 18446744073709551616) (hs : Secs w dv c) : c.wf := ⟨hk, by have := hs.len; unfold u8s at this; simpa using this⟩
theorem unlike_walk (a b : Cmd) (da db vm : Value) (nm : Nat) (ms : List Int) (cut : Int) (w : World) (ha : Secs w da a) (hb : Secs w db b) (la : a.n * 16 ≤ 140737488355328) (lb : b.n * 16 ≤ 140737488355328)
    (ra : ∀ x ∈ a.bs, 0 ≤ x ∧ x ≤ 255) (rb : ∀ x ∈ b.bs, 0 ≤ x ∧ x ≤ 255) (wa : a.wf) (wb : b.wf) (hm : Rd w vm nm 1 (u8s ms)) (lm : nm ≤ 140737488355328 - 4096) (rm : ∀ x ∈ ms, 0 ≤ x ∧ x ≤ 255) (hc0 : 0 ≤ cut) (hc1 : cut ≤ 255) :
    Calls Try.prog 5 #[a.val da, b.val db, vm, .int .u8 cut] w fun e w' => e = .returned (.bool true) ∧ Below w.heap.size w w' := by
  by_cases hoka : a.plain.ok <;> by_cases hokb : b.plain.ok
  · by_cases hep : a.plain = b.plain
    · exact unlike_3 a b da db vm nm ms cut w ha hb la lb ra rb wa wb hm lm rm hc0 hc1 hoka hokb hep
    · exact unlike_4 a b da db vm nm ms cut w ha hb la lb ra rb wa wb hm lm rm hc0 hc1 hoka hokb hep
  · exact unlike_2 a b da db vm nm ms cut w ha hb la lb ra rb wa wb hm lm rm hc0 hc1 hoka hokb
  · exact unlike_0 a b da db vm nm ms cut w ha hb la lb ra rb wa wb hm lm rm hc0 hc1 hoka hokb
  · exact unlike_1 a b da db vm nm ms cut w ha hb la lb ra rb wa wb hm lm rm hc0 hc1 hoka hokb
end Go.Proofs.Ytlkibkemmmppcaa.Wd
