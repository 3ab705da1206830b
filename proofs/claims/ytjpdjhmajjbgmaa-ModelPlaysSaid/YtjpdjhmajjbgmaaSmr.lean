/- SameSectors and Same of equal replies. -/
import Derived.Test.YtjpdjhmajjbgmaaBls
import Derived.Deep.LoopGhost
set_option linter.unusedVariables false
set_option linter.unusedSimpArgs false
namespace Go.Proofs.Ytjpdjhmajjbgmaa.Md
open Go Go.RowKit Res
open Wd (Cmd u8s balloc Rd)
set_option maxRecDepth 100000 in
set_option maxHeartbeats 4000000 in
theorem same_secs (n : Nat) (bs : List Int) (v1 v2 : Value) (w : World) (h1 : Rd w v1 n 16 (u8s bs)) (h2 : Rd w v2 n 16 (u8s bs)) :
    Calls Try.prog 21 #[v1, v2] w fun e w' => e = .returned (.bool true) ∧ Below w.heap.size w w' := by
  have hbl : bs.length = n * 16 := by have := h1.len; rwa [u8s_len] at this
  obtain ⟨A1, c1, rfl, hm1, hf1⟩ : ∃ A cp, v1 = .slice A n cp ∧ n ≤ 9223372036854775807 ∧ (0 < n → ∃ b off, A = some ⟨b, off, none⟩) := by
    obtain ⟨_, A, cp, q1, q2, q3, _, q4⟩ := h1; exact ⟨A, cp, q1, by unfold maxLen at q3; omega, fun h => by obtain ⟨b, off, q, _⟩ := q4 h; exact ⟨b, off, q⟩⟩
  obtain ⟨A2, c2, rfl, hf2⟩ : ∃ A cp, v2 = .slice A n cp ∧ (0 < n → ∃ b off, A = some ⟨b, off, none⟩) := by
    obtain ⟨_, A, cp, q1, q2, q3, _, q4⟩ := h2; exact ⟨A, cp, q1, fun h => by obtain ⟨b, off, q, _⟩ := q4 h; exact ⟨b, off, q⟩⟩
  have H1 := Lib.hid h1
  have H2 := Lib.hid h2
  have HBL := Lib.hid hbl
  clear h1 h2 hbl
  have z7 : ((n : Int) != (n : Int)) = false := bne_self_eq_false _
  go_enter Try.func21, Try.ntmps21
  go_wp2_with (fail)
  clear z7
  go_loopg [5] (n) (fun q v5 wr => ∃ i : Nat, i ≤ n ∧ v5 = .int .i64 (i : Int) ∧ q = n - i ∧ Below w.heap.size w wr)
  case atStart => exact ⟨0, by omega, rfl, rfl, Below.refl _ _⟩
  case round =>
    obtain ⟨i, hi, rfl, hq, hb⟩ := hrel
    have HQ := Lib.hid hq
    have HB := Lib.hid hb
    clear hq hb
    by_cases hlt : i < n
    · obtain ⟨r1, o1, rfl⟩ := hf1 (by omega)
      obtain ⟨r2, o2, rfl⟩ := hf2 (by omega)
      have hsl := sec_len HBL.out hlt
      have HR1 : Hid (wr.rangeAt r1 (o1 + i * 16) (u8s (sec bs i))) := Lib.hid (Wd.Rd.at H1.out HB.out hlt)
      have HR2 : Hid (wr.rangeAt r2 (o2 + i * 16) (u8s (sec bs i))) := Lib.hid (Wd.Rd.at H2.out HB.out hlt)
      have HI : Hid ((Try.prog.info? 24).map (·.size) = some (u8s (sec bs i)).length) := Lib.hid (by rw [u8s_len, hsl]; exact info24)
      have HE := Lib.hid (fun W => (Wd.eq_sec hsl hsl W).trans (by rw [decide_eq_true rfl]))
      have heg := Wd.eqGuard41
      have hltI : (i : Int) < (n : Int) := by omega
      clear hsl hf1 hf2
      go_upto_region 6 with (fail)
      refine wp_region_still_lit (by kernel_rfl) (by kernel_rfl) ?_
      still_step
      still_step
      still_step
      refine wpStill_run rfl (exec_load_mid 24 _ rfl r1 (o1 + i * 16) (by rfl) _ _ HR1.out Try.underlying24 rfl HI.out) ?_
      try simp only [Act.put, List.getElem_toArray, List.getElem_cons_succ, List.getElem_cons_zero, List.setIfInBounds_toArray, List.set_cons_zero, List.set_cons_succ]
      still_step
      still_step
      still_step
      refine wpStill_run rfl (exec_load_mid 24 _ rfl r2 (o2 + i * 16) (by rfl) _ _ HR2.out Try.underlying24 rfl HI.out) ?_
      try simp only [Act.put, List.getElem_toArray, List.getElem_cons_succ, List.getElem_cons_zero, List.setIfInBounds_toArray, List.set_cons_zero, List.set_cons_succ]
      have q := HE.out wr.drew
      still_step
      clear q
      refine wpStill_nil ?_
      have HB3 : Hid (Below w.heap.size w { heap := wr.heap, tape := wr.tape, drawn := wr.drawn + 1, os := wr.os, output := wr.output }) := Lib.hid (Wd.bdrew HB.out)
      generalize ({ heap := wr.heap, tape := wr.tape, drawn := wr.drawn + 1, os := wr.os, output := wr.output } : World) = w3 at *
      clear HR1 HR2 heg HE HI
      go_wp2_with (fail)
      go_roundg (n - (i + 1))
      case measure => have := HQ.out; omega
      case rel => exact ⟨i + 1, by omega, by go_num, rfl, HB3.out⟩
    · obtain rfl : i = n := by omega
      go_wp2_with (fail)
      go_ret
      exact ⟨rfl, HB.out⟩
set_option maxRecDepth 100000 in
set_option maxHeartbeats 4000000 in
theorem same_reply (st se : Int) (n : Nat) (bs : List Int) (v1 v2 : Value) (w : World) (h1 : Rd w v1 n 16 (u8s bs)) (h2 : Rd w v2 n 16 (u8s bs)) :
    Calls Try.prog 13 #[.agg #[.int .i64 st, .int .i64 se, v1], .agg #[.int .i64 st, .int .i64 se, v2]] w fun e w' => e = .returned (.bool true) ∧ Below w.heap.size w w' := by
  have hB := Wd.two_below w (.cells #[.int .i64 st, .int .i64 se, v1] 31) (.cells #[.int .i64 st, .int .i64 se, v2] 31)
  have HS := Lib.hid (same_secs n bs v1 v2 _ (h1.below hB) (h2.below hB))
  obtain ⟨A1, n1, c1, rfl⟩ : ∃ A m cp, v1 = .slice A m cp := by
    obtain ⟨_, A, cp, q1, _⟩ := h1; exact ⟨A, n, cp, q1⟩
  obtain ⟨A2, n2, c2, rfl⟩ : ∃ A m cp, v2 = .slice A m cp := by
    obtain ⟨_, A, cp, q1, _⟩ := h2; exact ⟨A, n, cp, q1⟩
  have HB := Lib.hid hB
  have z1 : ((st : Int) == st) = true := beq_self_eq_true _
  have z2 : ((se : Int) == se) = true := beq_self_eq_true _
  clear h1 h2 hB
  go_enter Try.func13, Try.ntmps13
  go_wp2_with (fail)
  refine (HS.out).mono ?_
  rintro e w2 ⟨rfl, hb2⟩
  have HB2 := Lib.hid (HB.out.trans (hb2.mono HB.out.size))
  clear hb2 HS HB
  go_wp2_with (fail)
  go_ret
  exact ⟨rfl, HB2.out⟩
end Go.Proofs.Ytjpdjhmajjbgmaa.Md
