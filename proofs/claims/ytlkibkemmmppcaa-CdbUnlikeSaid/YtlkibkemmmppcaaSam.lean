/- SameBytes, walked: whatever two rows of bytes. -/
import Derived.Test.YtlkibkemmmppcaaEnc
namespace Go.Proofs.Ytlkibkemmmppcaa.Wd
open Go.RowKit
set_option linter.unusedVariables false
set_option linter.unusedSimpArgs false
theorem Rd.byte {w W : World} {b off n m cap : Nat} {bs : List Int} (h : Rd w (.slice (some ⟨b, off, none⟩) m cap) n 1 (u8s bs)) (hW : Below w.heap.size w W) {i : Nat} {z : Int} (hz : bs[i]? = some z) : W.cell? ⟨b, off + i, none⟩ = some (.int .u8 z) := by
  obtain ⟨hl, A, cp, hv, _, _, _, h2⟩ := h
  have hi : i < bs.length := (List.getElem?_eq_some_iff.1 hz).1
  have hlen : bs.length = n := by unfold u8s at hl; simpa using hl
  obtain ⟨b', o', hA, hbl, hx⟩ := h2 (by omega)
  injection hv with hA2
  rw [← hA2] at hA
  injection hA with hA
  injection hA with q1 q2
  subst q1; subst q2
  rw [bcell hW _ _ hbl]
  apply hx
  unfold u8s
  rw [List.getElem?_map, hz]; rfl
theorem Rd.bform {w : World} {v : Value} {n : Nat} {bs : List Int} (h : Rd w v n 1 (u8s bs)) : ∃ A cap, v = .slice A n cap ∧ n ≤ cap ∧ cap ≤ maxLen ∧ (0 < n → ∃ b off, A = some ⟨b, off, none⟩ ∧ b < w.heap.size) := by
  obtain ⟨_, A, cp, h1, h2, h3, h4, h5⟩ := h
  exact ⟨A, cp, h1, h2, h3, fun h => by obtain ⟨b, off, q1, q2, _⟩ := h5 h; exact ⟨b, off, q1, q2⟩⟩
theorem Rd.blen {w : World} {v : Value} {n : Nat} {bs : List Int} (h : Rd w v n 1 (u8s bs)) : bs.length = n := by have := h.len; unfold u8s at this; simpa using this
theorem take_ne {L M : List Int} {i : Nat} {x y : Int} (hx : L[i]? = some x) (hy : M[i]? = some y) (h : ¬ x = y) : L ≠ M := by
  rintro rfl
  rw [hx] at hy
  injection hy with hy
  exact h hy
set_option maxRecDepth 100000 in
set_option maxHeartbeats 8000000 in
theorem same_bytes (v1 v2 : Value) (n1 n2 : Nat) (L M : List Int) (w : World) (h1 : Rd w v1 n1 1 (u8s L)) (h2 : Rd w v2 n2 1 (u8s M)) :
    Calls Try.prog 12 #[v1, v2] w fun e w' => e = .returned (.bool (decide (L = M))) ∧ Below w.heap.size w w' := by
  obtain ⟨A1, c1, rfl, hn1, hm1, hf1⟩ := h1.bform
  obtain ⟨A2, c2, rfl, hn2, hm2, hf2⟩ := h2.bform
  have hl1 := h1.blen
  have hl2 := h2.blen
  have H1 := Lib.hid h1
  have H2 := Lib.hid h2
  have hx1 : n1 ≤ 9223372036854775807 := by unfold maxLen at hm1; omega
  clear h1 h2 hm1 hm2
  by_cases hne : n1 = n2
  · subst hne
    have z1 : ((n1 : Int) != (n1 : Int)) = false := bne_self_eq_false _
    go_enter Try.func12, Try.ntmps12
    go_wp2_with (fail)
    clear z1
    go_loopg [5] (n1) (fun q v5 wr => ∃ i : Nat, i ≤ n1 ∧ v5 = .int .i64 i ∧ q = n1 - i ∧ L.take i = M.take i ∧ Below w.heap.size w wr)
    case atStart => exact ⟨0, by omega, rfl, rfl, by simp, Below.refl _ _⟩
    case round =>
      obtain ⟨i, hi, rfl, hq, ht, hb⟩ := hrel
      have HQ := Lib.hid hq
      have HT := Lib.hid ht
      have HB := Lib.hid hb
      clear hq ht hb
      by_cases hlt : i < n1
      · obtain ⟨x, hx⟩ : ∃ x, L[i]? = some x := ⟨_, List.getElem?_eq_getElem (by omega)⟩
        obtain ⟨y, hy⟩ : ∃ y, M[i]? = some y := ⟨_, List.getElem?_eq_getElem (by omega)⟩
        obtain ⟨r1, o1, rfl, hr1⟩ := hf1 (by omega)
        obtain ⟨r2, o2, rfl, hr2⟩ := hf2 (by omega)
        have e1 := H1.out.byte HB.out hx
        have e2 := H2.out.byte HB.out hy
        have HX := Lib.hid hx
        have HY := Lib.hid hy
        clear hx hy
        by_cases hxy : x = y
        · subst hxy
          have zz : (x != x) = false := bne_self_eq_false _
          have hN : Hid (L.take (i + 1) = M.take (i + 1)) := Lib.hid (by rw [List.take_add_one, List.take_add_one, HT.out, HX.out, HY.out])
          go_upto_region 6 with (fail)
          go_quiet (fail)
          go_wp2_with (fail)
          go_roundg (n1 - (i + 1))
          case measure => have := HQ.out; omega
          case rel => exact ⟨i + 1, by omega, by go_num, rfl, hN.out, belowN HB.out _⟩
        · have zz : (x != y) = true := by rw [bne_iff_ne]; exact hxy
          have hN : Hid (decide (L = M) = false) := Lib.hid (decide_eq_false (take_ne HX.out HY.out hxy))
          clear hxy
          go_upto_region 6 with (fail)
          go_quiet (fail)
          go_wp2_with (fail)
          go_ret
          exact ⟨by rw [hN.out]; rfl, belowN HB.out _⟩
      · obtain rfl : i = n1 := by omega
        have hN : Hid (decide (L = M) = true) := Lib.hid (decide_eq_true (by have := HT.out; rwa [List.take_of_length_le (by omega), List.take_of_length_le (by omega)] at this))
        go_wp2_with (fail)
        go_ret
        exact ⟨by rw [hN.out]; rfl, HB.out⟩
  · have z1 : ((n1 : Int) != (n2 : Int)) = true := by rw [bne_iff_ne]; omega
    have hN : Hid (decide (L = M) = false) := Lib.hid (decide_eq_false (by rintro rfl; omega))
    clear hne
    go_enter Try.func12, Try.ntmps12
    go_wp2_with (fail)
    go_ret
    exact ⟨by rw [hN.out]; rfl, Below.refl _ _⟩
end Go.Proofs.Ytlkibkemmmppcaa.Wd
