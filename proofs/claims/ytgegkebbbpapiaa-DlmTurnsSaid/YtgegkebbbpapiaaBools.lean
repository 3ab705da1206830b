/- Rows of bools of the call's own: made, read, written. -/
import Derived.Test.YtgegkebbbpapiaaApMath
import Derived.Test.YtgegkebbbpapiaaShared
import Derived.RegionTactic
import Derived.Laws.MakeOwn
namespace Go.Proofs.Ytgegkebbbpapiaa.Dlm
open Go.RowKit
set_option linter.unusedVariables false
/-- A row of bools that is a block of its own. -/
def bools (l : List Bool) : Array Value := (l.map Value.bool).toArray
def zeros (n : Nat) : List Bool := List.replicate n false
def Bl (w : World) (b : Nat) (l : List Bool) : Prop := w.heap[b]? = some (.cells (bools l) 4 (0, 0))
theorem zeros_length (n : Nat) : (zeros n).length = n := by simp [zeros]
theorem gf_zeros (n i : Nat) : gf (zeros n) i = false := by
  unfold gf zeros
  rw [List.getD_eq_getElem?_getD, List.getElem?_replicate]
  split <;> rfl
theorem Bl.cell {w : World} {b : Nat} {l : List Bool} (h : Bl w b l) {i : Nat} (hi : i < l.length) : w.cell? ⟨b, i, none⟩ = some (.bool (gf l i)) := by
  rw [cell_of_heap h, bools, List.getElem?_toArray, List.getElem?_map, at_gf hi]
  rfl
theorem Bl.frozen {w : World} {b : Nat} {l : List Bool} (h : Bl w b l) (i : Nat) : w.frozen? ⟨b, i, none⟩ = false := frozen_of_heap h i
theorem Bl.lt {w : World} {b : Nat} {l : List Bool} (h : Bl w b l) : b < w.heap.size := lt_of_heap h
theorem Bl.kept {w w' : World} {b : Nat} {l : List Bool} {S : List Nat} (h : Bl w b l) (ho : Only S w w') (hb : b ∉ S) : Bl w' b l := (ho.block b h.lt hb).trans h
theorem Bl.below {w w' : World} {b : Nat} {l : List Bool} {B : Nat} (h : Bl w b l) (ho : Below B w w') (hb : b < B) : Bl w' b l := (ho.block b hb).trans h
theorem Bl.set {w : World} {b : Nat} {l : List Bool} (h : Bl w b l) (i : Nat) : Bl (w.setCell ⟨b, i, none⟩ (.bool true)) b (l.set i true) := by
  have := heap_set h i (.bool true)
  unfold Bl
  rw [this]
  simp [bools, List.map_set]
theorem Bl.far {w : World} {b : Nat} {l : List Bool} (h : Bl w b l) (p : Addr) (u : Value) (hp : b ≠ p.block) : Bl (w.setCell p u) b l := (Below.heap_setCell w p u b hp).trans h
theorem Bl.ne_tab {w : World} {b g : Nat} {l : List Bool} {v : Value} {ts : List Tk} (h : Bl w b l) (hT : Tab w g v ts) : b ≠ g ∧ v.ownBlock ≠ some b := by
  constructor
  · rintro rfl
    have h1 := h.symm.trans hT.1
    injection h1 with h1
    injection h1 with _ ht
    exact absurd ht (by decide)
  · exact own_blk hT.2 h (by decide)
theorem info4 : (Try.prog.info? 4).map (fun i => (i.zero, i.size, i.bytes)) = some (some (.bool false), 1, 1) := by kernel_rfl
theorem made_bools (n : Nat) : madeCells #[.bool false] n = bools (zeros n) := by
  apply Array.ext
  · simp [madeCells, bools, zeros]
  · intro i h1 h2
    simp [madeCells, bools, zeros, Nat.mod_one]
theorem run_mk (n : Nat) (hn : n ≤ 65536) (W : World) : (Instr.makeSlice 34 (.int .i64 (n : Int)) (.int .i64 (n : Int))).run Try.prog W = .ok (.slice (some ⟨W.heap.size, 0, none⟩) n n) (W.alloc (.cells (bools (zeros n)) 4)) := by
  obtain ⟨i0, hi0, hz0, hz1, hz2⟩ := info_parts info4
  have h := run_make (P := Try.prog) (w := W) 34 4 i0 (.bool false) Try.underlying34 hi0 hz0 .i64 .i64 (n : Int) (n : Int) (by omega) (by omega) (by rw [hz2]; omega) (by omega)
  rw [h, hz1]
  simp only [Int.toNat_natCast, Nat.mul_one]
  rw [show (Value.bool false).cells = #[.bool false] from rfl, made_bools]
end Go.Proofs.Ytgegkebbbpapiaa.Dlm
