/- bytes.Equal, walked. -/
import Derived.Test.YtlkibkemmmppcaaSam
import Derived.Laws.BytesArg
namespace Go.Proofs.Ytlkibkemmmppcaa.Wd
open Go.RowKit
set_option linter.unusedVariables false
set_option linter.unusedSimpArgs false
theorem conv_zero (w : World) (p : Option Addr) (c : Nat) : (convert 26 9 (.slice p 0 c)).run Try.prog w = .ok (.string ByteArray.empty) w := by
  rw [run_convert_bytes_string w 26 9 5 _ 0 c Try.underlying26 Try.underlying5 Try.underlying9]
  cases p <;> simp [Conv.bytesToString, loadCells]
  all_goals rfl
theorem conv_bytes {w : World} {v : Value} {n : Nat} {bs : List Int} (h : Rd w v n 1 (u8s bs)) : (convert 26 9 v).run Try.prog w = .ok (.string (strOfNums bs)) w := by
  have hl := h.blen
  obtain ⟨_, A, cp, rfl, _, _, _, h5⟩ := h
  rcases Nat.eq_zero_or_pos n with h0 | h0
  · subst h0
    have : bs = [] := List.eq_nil_of_length_eq_zero hl
    subst this
    exact conv_zero w A cp
  · obtain ⟨b, off, rfl, hbl, hx⟩ := h5 h0
    refine run_convert_bytes_arg (P := Try.prog) w 26 5 Try.underlying26 Try.underlying5 b off n cp bs hl (fun i hi => ?_) 9 Try.underlying9
    apply hx
    unfold u8s
    rw [List.getElem?_map, List.getElem?_eq_getElem (by omega), List.getD_eq_getElem?_getD, List.getElem?_eq_getElem (by omega)]; rfl
theorem str_inj {L M : List Int} (hL : ∀ x ∈ L, 0 ≤ x ∧ x ≤ 255) (hM : ∀ x ∈ M, 0 ≤ x ∧ x ≤ 255) : strOfNums L = strOfNums M ↔ L = M := by
  constructor
  · intro h
    have h1 : (strOfNums L).data.toList = (strOfNums M).data.toList := by rw [h]
    rw [strOfNums_data, strOfNums_data] at h1
    have key : ∀ (A : List Int), (∀ x ∈ A, 0 ≤ x ∧ x ≤ 255) → (A.map fun n => UInt8.ofNat n.toNat).map (fun u => (u.toNat : Int)) = A := by
      intro A hA
      rw [List.map_map]
      conv => rhs; rw [← List.map_id A]
      apply List.map_congr_left
      intro x hx
      have := hA x hx
      simp
      omega
    rw [← key L hL, ← key M hM, h1]
  · rintro rfl; rfl
set_option maxRecDepth 100000 in
theorem bytes_equal (v1 v2 : Value) (n1 n2 : Nat) (L M : List Int) (w : World) (h1 : Rd w v1 n1 1 (u8s L)) (h2 : Rd w v2 n2 1 (u8s M)) (hL : ∀ x ∈ L, 0 ≤ x ∧ x ≤ 255) (hM : ∀ x ∈ M, 0 ≤ x ∧ x ≤ 255) :
    Calls Try.prog 22 #[v1, v2] w fun e w' => e = .returned (.bool (decide (L = M))) ∧ w' = w := by
  have C1 := conv_bytes h1
  have C2 := conv_bytes h2
  obtain ⟨A1, c1, rfl, _⟩ := h1.bform
  obtain ⟨A2, c2, rfl, _⟩ := h2.bform
  clear h1 h2
  have HI := Lib.hid (str_inj hL hM)
  clear hL hM
  generalize strOfNums L = s1 at *
  generalize strOfNums M = s2 at *
  go_enter Try.func22, Try.ntmps22
  go_wp2_with (fail)
  go_ret
  refine ⟨?_, rfl⟩
  have e : (s1.toList == s2.toList) = decide (L = M) := by
    rw [ByteArray.toList_eq, ByteArray.toList_eq]
    by_cases c : L = M
    · rw [decide_eq_true c, HI.out.2 c]; simp
    · rw [decide_eq_false c, beq_eq_false_iff_ne]
      intro hd
      apply c
      apply HI.out.1
      obtain ⟨⟨x⟩⟩ := s1
      obtain ⟨⟨y⟩⟩ := s2
      simp at hd
      rw [hd]
  show Ending.returned (Value.bool (s1.toList == s2.toList)) = _
  rw [e]
end Go.Proofs.Ytlkibkemmmppcaa.Wd
