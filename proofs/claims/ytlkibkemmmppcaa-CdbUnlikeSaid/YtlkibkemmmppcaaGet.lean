/- Get, walked. -/
import Derived.Test.YtlkibkemmmppcaaSam
namespace Go.Proofs.Ytlkibkemmmppcaa.Wd
open Go.RowKit
set_option linter.unusedVariables false
set_option linter.unusedSimpArgs false
/-- A number out of bytes, as the document reckons it. -/
def rdu (l : List Int) : Int := l.foldl (fun z x => (z * 256 + x) % 18446744073709551616) 0
theorem rdu_more (l : List Int) (x : Int) : rdu (l ++ [x]) = (rdu l * 256 + x) % 18446744073709551616 := by unfold rdu; rw [List.foldl_append]; rfl
theorem rdu_range (l : List Int) : 0 ≤ rdu l ∧ rdu l < 18446744073709551616 := by
  rcases List.eq_nil_or_concat l with rfl | ⟨m, x, rfl⟩
  · exact ⟨by decide, by decide⟩
  · rw [List.concat_eq_append, rdu_more]; omega
set_option maxRecDepth 100000 in
set_option maxHeartbeats 8000000 in
theorem get_any (b off n cap : Nat) (bs : List Int) (w : World) (fr k : Nat) (h : Rd w (.slice (some ⟨b, off, none⟩) n cap) n 1 (u8s bs)) (hk : fr + k ≤ n) (hby : ∀ x ∈ bs, 0 ≤ x ∧ x ≤ 255) :
    Calls Try.prog 24 #[.slice (some ⟨b, off, none⟩) n cap, .int .i64 (fr : Int), .int .i64 (k : Int)] w fun e w' => e = .returned (.int .u64 (rdu ((bs.drop fr).take k))) ∧ w' = w := by
  have H := Lib.hid h
  have HBY := Lib.hid hby
  clear hby
  obtain ⟨A1, c1, hv, hn1, hm1, hf1⟩ := h.bform
  simp only [Value.slice.injEq] at hv
  obtain ⟨rfl, _, rfl⟩ := hv
  have hx1 : n ≤ 9223372036854775807 := by unfold maxLen at hm1; omega
  have hlen := h.blen
  clear h hm1 hf1
  go_enter Try.func24, Try.ntmps24
  go_wp2_with (fail)
  go_loopg [7, 8] (k) (fun q v7 v8 wr => ∃ i : Nat, i ≤ k ∧ v8 = .int .i64 i ∧ v7 = .int .u64 (rdu ((bs.drop fr).take i)) ∧ q = k - i ∧ wr = w)
  case atStart => exact ⟨0, by omega, rfl, by simp [rdu], rfl, rfl⟩
  case round =>
    obtain ⟨i, hi, rfl, rfl, hq, rfl⟩ := hrel
    have HQ := Lib.hid hq
    clear hq
    by_cases hlt : i < k
    · obtain ⟨x, hx⟩ : ∃ x, bs[fr + i]? = some x := ⟨_, List.getElem?_eq_getElem (by omega)⟩
      have hc1 := H.out.byte (Below.refl _ _) hx
      have hxb := HBY.out x (List.mem_of_getElem? hx)
      have HN : Hid (rdu ((bs.drop fr).take (i + 1)) = (rdu ((bs.drop fr).take i) * 256 + x) % 18446744073709551616) := Lib.hid (by rw [List.take_add_one, List.getElem?_drop, hx]; exact rdu_more _ x)
      have hz := rdu_range ((bs.drop fr).take i)
      clear hx
      have HZ := Lib.hid hz
      have HXB := Lib.hid hxb
      have hfi : fr + i < n := by omega
      have hfi2 : (fr : Int) + (i : Int) < (n : Int) := by omega
      clear hz
      generalize rdu ((bs.drop fr).take i) = z at *
      go_wp2_with (fail)
      go_roundg (k - (i + 1))
      case measure => have := HQ.out; omega
      case rel => exact ⟨i + 1, by omega, by go_num, by rw [HN.out]; have h1 := HZ.out; have h2 := HXB.out; simp [IntKind.wrap, IntKind.bits, IntKind.signed], rfl, rfl⟩
    · obtain rfl : i = k := by omega
      go_wp2_with (fail)
      go_ret
      exact ⟨rfl, rfl⟩
end Go.Proofs.Ytlkibkemmmppcaa.Wd
