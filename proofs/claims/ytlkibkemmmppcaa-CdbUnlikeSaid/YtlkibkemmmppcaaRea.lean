/- Decode's closure 'read', walked. -/
import Derived.Test.YtlkibkemmmppcaaSam
import Derived.Laws.BitsAllLaws
namespace Go.Proofs.Ytlkibkemmmppcaa.Wd
open Go.RowKit
set_option linter.unusedVariables false
set_option linter.unusedSimpArgs false
theorem wrap_eq (n : Int) : IntKind.i64.wrap n = wrap64 n := by simp [IntKind.wrap, IntKind.bits, IntKind.signed, wrap64]; split <;> omega
theorem or_byte (z x : Int) (h0 : 0 ≤ x) (h1 : x ≤ 255) : bits BinOp.or IntKind.i64 (wrap64 (z * 256)) (wrap64 x) = wrap64 (z * 256 + x) := by
  show IntKind.i64.wrap ((BitVec.ofInt 64 (wrap64 (z * 256)) ||| BitVec.ofInt 64 (wrap64 x)).toNat : Int) = _
  have hx : wrap64 x = x := by unfold wrap64; omega
  have hA : (BitVec.ofInt 64 (wrap64 (z * 256))).toNat = ((z * 256) % 18446744073709551616).toNat := by
    rw [BitVec.toNat_ofInt]
    congr 1
    show wrap64 (z * 256) % 18446744073709551616 = _
    unfold wrap64
    omega
  have hB : (BitVec.ofInt 64 (wrap64 x)).toNat = x.toNat := by
    rw [BitVec.toNat_ofInt, hx]
    congr 1
    show x % 18446744073709551616 = _
    omega
  rw [BitVec.toNat_or, hA, hB, nat_join 8 _ _ (by omega) (by omega), wrap_eq]
  unfold wrap64
  omega
/-- A number out of bytes, as the closure reckons it. -/
def rdz (l : List Int) : Int := l.foldl (fun z x => wrap64 (z * 256 + x)) 0
theorem rdz_more (l : List Int) (x : Int) : rdz (l ++ [x]) = wrap64 (rdz l * 256 + x) := by unfold rdz; rw [List.foldl_append]; rfl
set_option maxRecDepth 100000 in
set_option maxHeartbeats 8000000 in
theorem read_any (g : Nat) (b off n cap : Nat) (bs : List Int) (w : World) (fr k : Nat) (hc : w.cell? ⟨g, 0, none⟩ = some (.slice (some ⟨b, off, none⟩) n cap)) (h : Rd w (.slice (some ⟨b, off, none⟩) n cap) n 1 (u8s bs)) (hk : fr + k ≤ n) (hk0 : 0 < k) (hby : ∀ x ∈ bs, 0 ≤ x ∧ x ≤ 255) :
    Calls Try.prog 21 #[.int .i64 (fr : Int), .int .i64 ((fr + k : Nat) : Int), .pointer (some ⟨g, 0, none⟩)] w fun e w' => e = .returned (.int .i64 (rdz ((bs.drop fr).take k))) ∧ w' = w := by
  have H := Lib.hid h
  have HBY := Lib.hid hby
  clear hby
  obtain ⟨A1, c1, hv, hn1, hm1, hf1⟩ := h.bform
  simp only [Value.slice.injEq] at hv
  obtain ⟨rfl, _, rfl⟩ := hv
  have hx1 : n ≤ 9223372036854775807 := by unfold maxLen at hm1; omega
  have hlen := h.blen
  clear h hm1 hf1
  have e1 : fr + k ≤ cap := by omega
  have e2 : fr ≤ fr + k := by omega
  have e3 : ¬ cap = fr := by omega
  go_enter Try.func21, Try.ntmps21
  go_wp2_with (fail)
  go_loopg [6, 14] (k) (fun q v6 v14 wr => ∃ i : Nat, i ≤ k ∧ v14 = .int .i64 i ∧ v6 = .int .i64 (rdz ((bs.drop fr).take i)) ∧ q = k - i ∧ wr = w)
  case atStart => exact ⟨0, by omega, rfl, by simp [rdz], rfl, rfl⟩
  case round =>
    obtain ⟨i, hi, rfl, rfl, hq, rfl⟩ := hrel
    have HQ := Lib.hid hq
    clear hq
    by_cases hlt : i < k
    · obtain ⟨x, hx⟩ : ∃ x, bs[fr + i]? = some x := ⟨_, List.getElem?_eq_getElem (by omega)⟩
      have hc1 := H.out.byte (Below.refl _ _) hx
      rw [← Nat.add_assoc] at hc1
      have hxb := HBY.out x (List.mem_of_getElem? hx)
      have hor := or_byte (rdz ((bs.drop fr).take i)) x hxb.1 hxb.2
      have HN : Hid (rdz ((bs.drop fr).take (i + 1)) = wrap64 (rdz ((bs.drop fr).take i) * 256 + x)) := Lib.hid (by rw [List.take_add_one, List.getElem?_drop, hx]; exact rdz_more _ x)
      clear hx hxb
      generalize rdz ((bs.drop fr).take i) = z at *
      have HOR := Lib.hid hor
      clear hor
      go_wp2_with (fail)
      go_roundg (k - (i + 1))
      case measure => have := HQ.out; omega
      case rel => exact ⟨i + 1, by omega, by go_num, by rw [HN.out, ← HOR.out], rfl, rfl⟩
    · obtain rfl : i = k := by omega
      go_wp2_with (fail)
      go_ret
      exact ⟨rfl, rfl⟩
end Go.Proofs.Ytlkibkemmmppcaa.Wd
