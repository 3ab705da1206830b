/- Bytes that came in. -/
import Derived.Test.YtlkibkemmmppcaaCi2
import Derived.ChangeSlices
import Derived.OpenShut
namespace Go.Proofs.Ytlkibkemmmppcaa.Wd
open Go.RowKit
set_option linter.unusedVariables false
set_option linter.unusedSimpArgs false
open Go.WideShapes Go.ChangeShapes in
theorem open_bytes {H : Type} {enc : TypeId × Value → H} {W : World} {base : Nat} {v : Value} {d : DataW H} {p : List MemPlace} (hv : Value.okWide Try.prog W .any base 26 v) (h : DataW.Trod enc Try.prog W 0 (fun _ => true) true 26 v d p)
    (hz : ∀ n ∈ d.weights Try.prog 26, n ≤ reachBytes) :
    ∃ (n : Nat) (bs : List Int), Rd W v n 1 (u8s bs) ∧ n ≤ 140737488355328 - 4096 ∧ ∀ x ∈ bs, 0 ≤ x ∧ x ≤ 255 := by
  obtain ⟨A, n, cap, rfl⟩ := okWide_slice Try.underlying26 hv
  obtain ⟨fuel, hf⟩ := h
  have h5 : Try.prog.cellsOf 5 = 1 := by kernel_rfl
  rcases open_ints Try.underlying26 Try.underlying5 h5 hf with ⟨hc, hx⟩ | ⟨a, len, cap', zs, hc, hb, hl, hm, hlen, hx, hcell, hwf⟩
  · have e : (Value.slice A n cap).cells.toList = [.slice A n cap] := rfl
    rw [e] at hc
    simp only [List.cons.injEq, and_true, Value.slice.injEq] at hc
    obtain ⟨rfl, rfl, rfl⟩ := hc
    exact ⟨0, [], Rd.nil W 1, by decide, fun x hx => by cases hx⟩
  · have e : (Value.slice A n cap).cells.toList = [.slice A n cap] := rfl
    rw [e] at hc
    simp only [List.cons.injEq, and_true, Value.slice.injEq] at hc
    obtain ⟨rfl, rfl, rfl⟩ := hc
    rw [if_pos rfl] at hlen
    have hzl : (zs.take n).length = n := by simp; omega
    refine ⟨n, zs.take n, ⟨by unfold u8s; simp; omega, some a, cap, rfl, hl, hm, fun h => (by cases h), fun h0 => ?_⟩, ?_, fun x hx => wf_u8 (hwf x (List.mem_of_mem_take hx))⟩
    · have c0 := hcell 0 (by omega)
      rw [show a.add 0 = a from rfl] at c0
      have hpl : a.spot = none ∧ a.block < W.heap.size := addr_plain c0
      obtain ⟨b, off, spot⟩ := a
      obtain ⟨hs, hbl⟩ := hpl
      simp only at hs hbl
      subst hs
      refine ⟨b, off, rfl, hbl, fun j u hu => ?_⟩
      have hj : j < n := by have := (List.getElem?_eq_some_iff.1 hu).1; unfold u8s at this; simp at this; omega
      have := hcell j (by omega)
      rw [addr_add] at this
      rw [this]
      unfold u8s at hu
      rw [List.getElem?_map, List.getElem?_take_of_lt hj, List.getElem?_eq_getElem (by omega)] at hu
      rw [List.getD_eq_getElem?_getD, List.getElem?_eq_getElem (by omega)]
      simpa using hu
    · have hd' : d = .slice (lits .u8 (zs.take n)) (lits .u8 (zs.drop n)) := by simp only [Prod.mk.injEq] at hx; exact hx.1
      have b5 : Try.prog.bytesOf 5 = 1 := by kernel_rfl
      have hmem : ((lits (H := H) .u8 (zs.take n)).length + (lits (H := H) .u8 (zs.drop n)).length) * Try.prog.bytesOf 5 ∈ d.weights Try.prog 26 := by
        rw [hd']; simp [DataW.weights, Try.underlying26]
      have := hz _ hmem
      rw [b5] at this
      have hbig : reachBytes ≤ 140737488355328 - 4096 := by decide
      simp [lits] at this
      omega
end Go.Proofs.Ytlkibkemmmppcaa.Wd
