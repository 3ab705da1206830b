/- Decode and the document's Decode, of any bytes. -/
import Derived.Test.YtlkibkemmmppcaaRde
namespace Go.Proofs.Ytlkibkemmmppcaa.Wd
open Go.RowKit
set_option linter.unusedVariables false
set_option linter.unusedSimpArgs false
theorem not_short {bs : List Int} (h : bs.length < 20) : ¬ ((prs bs).plain.ok ∧ (prs bs).plain.bytes = bs) := by
  rintro ⟨_, h2⟩
  have := bytes_length (prs bs).plain
  rw [h2] at this
  omega
theorem dec_any (v : Value) (n : Nat) (bs : List Int) (w : World) (h : Rd w v n 1 (u8s bs)) (hby : ∀ x ∈ bs, 0 ≤ x ∧ x ≤ 255) : Calls Try.prog 13 #[v] w (DecPost w bs) := by
  by_cases hn : n < 20
  · refine (dec_short v n bs w h hn).mono ?_
    rintro e w' ⟨rfl, hb⟩
    exact DecPost.no (not_short (by rw [h.blen]; exact hn)) hb
  · exact dec_long v n bs w h (by omega) hby
set_option maxRecDepth 100000 in
theorem rdec_bad (v : Value) (n : Nat) (bs : List Int) (w : World) (h : Rd w v n 1 (u8s bs)) (hn : 20 ≤ n) (hn2 : 148 < n ∨ (n - 20) % 16 ≠ 0) :
    Calls Try.prog 16 #[v] w fun e w' => e = .returned (.tuple #[czero.val (.slice none 0 0), .int .i64 1]) ∧ Below w.heap.size w w' := by
  obtain ⟨A, cap, rfl, hc1, hc2, _⟩ := h.bform
  have hx : n ≤ 9223372036854775807 := by unfold maxLen at hc2; omega
  clear h hc1 hc2
  have e1 : decide ((n : Int) < 20) = false := decide_eq_false (by omega)
  have e5 : (0 : Int) ≤ (n : Int) - 20 := by omega
  by_cases hb : 148 < n
  · have e2 : decide ((148 : Int) < (n : Int)) = true := decide_eq_true (by omega)
    go_enter Try.func16, Try.ntmps16
    go_wp2_with (fail)
    refine bodyPost_ret (results_ct rfl _ _ w.heap.size 25 _ (0, 0) _ rfl (heap_alloc_new w _) Try.underlying25 rfl (by kernel_rfl)) rfl ?_
    exact ⟨rfl, balloc w _⟩
  · have e2 : decide ((148 : Int) < (n : Int)) = false := decide_eq_false (by omega)
    have e4 : ¬ ((n : Int) - 20) % 16 = 0 := by omega
    have e3 : ¬ Int.tmod ((n : Int) - 20) 16 = 0 := by rw [Int.tmod_eq_emod_of_nonneg e5]; exact e4
    go_enter Try.func16, Try.ntmps16
    go_wp2_with (fail)
    refine bodyPost_ret (results_ct rfl _ _ w.heap.size 25 _ (0, 0) _ rfl (heap_alloc_new w _) Try.underlying25 rfl (by kernel_rfl)) rfl ?_
    exact ⟨rfl, balloc w _⟩
theorem rdec_any (v : Value) (n : Nat) (bs : List Int) (w : World) (h : Rd w v n 1 (u8s bs)) (hby : ∀ x ∈ bs, 0 ≤ x ∧ x ≤ 255) : Calls Try.prog 16 #[v] w (DecPost w bs) := by
  by_cases hn : n < 20
  · refine (rdec_short v n bs w h hn).mono ?_
    rintro e w' ⟨rfl, hb⟩
    exact DecPost.no (not_short (by rw [h.blen]; exact hn)) hb
  · by_cases hg : 148 < n ∨ (n - 20) % 16 ≠ 0
    · refine (rdec_bad v n bs w h (by omega) hg).mono ?_
      rintro e w' ⟨rfl, hb⟩
      refine DecPost.no (fun hh => ?_) hb
      have := prs2_prs bs (by rw [h.blen]; omega) hh
      rw [h.blen] at this
      omega
    · exact rdec_long v n bs w h (by omega) (by omega) (by omega) hby
end Go.Proofs.Ytlkibkemmmppcaa.Wd
