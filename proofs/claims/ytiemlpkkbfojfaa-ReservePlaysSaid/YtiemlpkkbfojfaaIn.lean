/- A slice of numbers that came in; sixteen numbers in a block. -/
import Derived.Test.YtiemlpkkbfojfaaPreempt
import Derived.Test.YtiemlpkkbfojfaaDesk3
import Derived.Deep.Slices
import Derived.Deep.Fields
import Derived.ChangeSame
import Derived.ChangeSlices
import Derived.OpenShut
namespace Go.Proofs.Ytiemlpkkbfojfaa.Res
open Go.RowKit Go.ChangeShapes Go.WideShapes
theorem bcell {B : Nat} {w w' : World} (hb : Below B w w') (b : Nat) (o : Nat) (hlt : b < B) : w'.cell? ⟨b, o, none⟩ = w.cell? ⟨b, o, none⟩ := by
  unfold World.cell?; rw [hb.block b hlt]
theorem addr_add (b off : Nat) (k : Nat) : (⟨b, off, none⟩ : Addr).add k = ⟨b, off + k, none⟩ := by
  unfold Addr.add; split <;> simp_all
theorem addr_plain {w : World} {a : Addr} {v : Value} (h : w.cell? a = some v) : a.spot = none ∧ a.block < w.heap.size := by
  obtain ⟨b, off, spot⟩ := a
  unfold World.cell? at h
  simp only at h
  cases hh : w.heap[b]? with
  | none => rw [hh] at h; cases h
  | some o =>
    refine ⟨?_, lt_of_heap hh⟩
    rw [hh] at h
    cases o with
    | cells c e f =>
      simp only at h
      split at h
      · cases h
      · rename_i hn
        cases spot with
        | none => rfl
        | some x => simp at hn
    | _ => cases h
/-- A slice of numbers that came in. -/
def InInts (w : World) (k : IntKind) (A : Option Addr) (xs : List Int) : Prop :=
  xs = [] ∨ ∃ b off, A = some ⟨b, off, none⟩ ∧ b < w.heap.size ∧ ∀ i x, xs[i]? = some x → w.cell? ⟨b, off + i, none⟩ = some (.int k x)
theorem InInts.below {w w' : World} {k : IntKind} {A : Option Addr} {os : List Int} (h : InInts w k A os) (hb : Below w.heap.size w w') : InInts w' k A os := by
  rcases h with h | ⟨b, off, hA, hlt, h⟩
  · exact .inl h
  · exact .inr ⟨b, off, hA, Nat.lt_of_lt_of_le hlt hb.size, fun i o ho => (bcell hb b _ hlt).trans (h i o ho)⟩
theorem open_u8s {H : Type} {enc : TypeId × Value → H} {W : World} {base : Nat} {v : Value} {d : DataW H} {p : List MemPlace} (hv : Value.okWide Try.prog W .any base 32 v) (h : DataW.Trod enc Try.prog W 0 (fun _ => true) true 32 v d p) :
    ∃ (A : Option Addr) (cap : Nat) (xs : List Int), v = .slice A xs.length cap ∧ xs.length ≤ cap ∧ cap ≤ maxLen ∧ InInts W .u8 A xs ∧ ∀ x ∈ xs, (Lit.int .u8 x).wf = true := by
  obtain ⟨a0, len0, cap0, rfl⟩ := okWide_slice Try.underlying32 hv
  obtain ⟨fuel, hf⟩ := h
  rcases open_ints Try.underlying32 Try.underlying5 (by kernel_rfl) hf with ⟨hc, _⟩ | ⟨a, len, cap, zs, hc, _, hl, hm, hz, _, hcell, hwz⟩
  · simp [Value.cells] at hc
    obtain ⟨rfl, rfl, rfl⟩ := hc
    exact ⟨none, 0, [], rfl, Nat.le_refl _, by unfold maxLen; omega, .inl rfl, fun o ho => by cases ho⟩
  · simp [Value.cells] at hc
    obtain ⟨rfl, rfl, rfl⟩ := hc
    have hzl : zs.length = cap0 := by simpa using hz
    have hlen : (zs.take len0).length = len0 := by simp; omega
    refine ⟨some a, cap0, zs.take len0, by rw [hlen], by rw [hlen]; exact hl, hm, ?_, fun x hx => hwz x (List.mem_of_mem_take hx)⟩
    rcases Nat.eq_zero_or_pos len0 with h0 | h0
    · subst h0; exact .inl rfl
    · have hc0 := hcell 0 (by omega)
      rw [show a.add 0 = a from rfl] at hc0
      obtain ⟨hs, hb⟩ := addr_plain hc0
      obtain ⟨b, off, spot⟩ := a
      simp only at hs hb
      subst hs
      refine .inr ⟨b, off, rfl, hb, fun i x hx => ?_⟩
      have hil : i < len0 := by have := (List.getElem?_eq_some_iff.1 hx).1; omega
      have := hcell i (by omega)
      rw [addr_add] at this
      rw [this]
      rw [List.getElem?_take_of_lt hil] at hx
      rw [List.getD_eq_getElem?_getD, hx]
      rfl
/-- Sixteen numbers in block b. -/
structure HasA (w : World) (b : Nat) (xs : List Int) : Prop where
  heap : w.heap[b]? = some (.cells (xs.map (.int .u64)).toArray 33 (0, 0))
  len : xs.length = 16
section
variable {w w' : World} {b : Nat} {xs : List Int}
theorem HasA.lt (h : HasA w b xs) : b < w.heap.size := lt_of_heap h.heap
theorem HasA.kept {S : List Nat} (h : HasA w b xs) (ho : Only S w w') (hg : b ∉ S) : HasA w' b xs := ⟨(ho.block b h.lt hg).trans h.heap, h.len⟩
theorem HasA.below (h : HasA w b xs) (hb : Below w.heap.size w w') : HasA w' b xs := h.kept (Only.of_below hb []) (by simp)
theorem HasA.frozen (h : HasA w b xs) (i : Nat) : w.frozen? ⟨b, i, none⟩ = false := frozen_of_heap h.heap i
theorem HasA.cell (h : HasA w b xs) {i : Nat} (hi : i < 16) : w.cell? ⟨b, i, none⟩ = some (.int .u64 (xs.getD i 0)) := by
  rw [cell_of_heap h.heap, List.getElem?_toArray, List.getElem?_map, List.getD_eq_getElem?_getD, List.getElem?_eq_getElem (by rw [h.len]; exact hi)]
  rfl
theorem HasA.set (h : HasA w b xs) {i : Nat} (k : Int) : HasA (w.setCell ⟨b, i, none⟩ (.int .u64 k)) b (xs.set i k) := by
  refine ⟨?_, by simp [h.len]⟩
  rw [heap_set h.heap]
  simp only [List.setIfInBounds_toArray, List.map_set]
theorem HasD.below {g : Nat} {d : Dk} (h : HasD w g d) (hb : Below w.heap.size w w') : HasD w' g d := h.kept (Only.of_below hb []) (by simp)
end
end Go.Proofs.Ytiemlpkkbfojfaa.Res
