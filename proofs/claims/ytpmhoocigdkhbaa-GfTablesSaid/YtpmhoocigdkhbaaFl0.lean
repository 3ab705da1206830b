/- A field that reckons by tables, as it lies in memory: New, and what a write to one of its cells leaves. -/
import Derived.Test.YtpmhoocigdkhbaaWord
namespace Go.Proofs.Ytpmhoocigdkhbaa.Fl
open Go.RowKit Go.Proofs.Ytpmhoocigdkhbaa.Wd
set_option linter.unusedVariables false
def F0 : Array Value := #[.int .u32 0, .int .i32 0, .int .u32 0, .int .i64 0] ++ Array.replicate 510 (.int .u8 0) ++ Array.replicate 256 (.int .i64 0)
theorem zero_f (w : World) : Sem.run Try.prog (zeroValue 65) w = .ok (.agg F0) w := by kernel_rfl
set_option maxRecDepth 100000 in
theorem new_any (w : World) : Calls Try.prog 26 #[] w fun e w' => e = .returned (.pointer (some ⟨w.heap.size, 0, none⟩)) ∧ w' = w.alloc (.cells F0 65) := by
  have hz := zero_f
  generalize F0 = F at *
  go_enter Try.func26, Try.ntmps26
  go_wp2
  go_ret
  exact ⟨rfl, rfl⟩
/-- The cells of a field: d (once's word), l (its lock), m (how often made), ex and lg (the tables). -/
structure FC (cs : Array Value) (d l m : Int) (ex lg : Nat → Nat) : Prop where
  size : cs.size = 770
  c0 : cs[0]? = some (.int .u32 d)
  c1 : cs[1]? = some (.int .i32 l)
  c3 : cs[3]? = some (.int .i64 m)
  cx : ∀ k, k < 510 → cs[4 + k]? = some (.int .u8 ((ex k : Nat) : Int))
  cl : ∀ k, k < 256 → cs[514 + k]? = some (.int .i64 ((lg k : Nat) : Int))
structure HasF (w : World) (g : Nat) (d l m : Int) (ex lg : Nat → Nat) : Prop where
  ex_cs : ∃ cs, w.heap[g]? = some (.cells cs 65 (0, 0)) ∧ FC cs d l m ex lg
variable {w w' : World} {g : Nat} {d l m : Int} {ex lg : Nat → Nat}
theorem new_has (w : World) : HasF (w.alloc (.cells F0 65)) w.heap.size 0 0 0 (fun _ => 0) (fun _ => 0) := by
  refine ⟨F0, heap_alloc_new w _, ?_⟩
  refine ⟨by simp [F0], by simp [F0, Array.getElem?_append], by simp [F0, Array.getElem?_append], by simp [F0, Array.getElem?_append], fun k hk => ?_, fun k hk => ?_⟩
  · unfold F0
    rw [Array.getElem?_append_left (by simp; omega), Array.getElem?_append_right (by simp)]
    simp [hk]
  · unfold F0
    rw [Array.getElem?_append_right (by simp)]
    simp [hk]
theorem HasF.lt (h : HasF w g d l m ex lg) : g < w.heap.size := by obtain ⟨cs, hh, _⟩ := h.ex_cs; exact lt_of_heap hh
theorem HasF.kept {S : List Nat} (h : HasF w g d l m ex lg) (ho : Only S w w') (hg : g ∉ S) : HasF w' g d l m ex lg := by
  obtain ⟨cs, hh, r⟩ := h.ex_cs
  exact ⟨cs, by rw [ho.block g h.lt hg]; exact hh, r⟩
theorem HasF.below (h : HasF w g d l m ex lg) (hb : Below w.heap.size w w') : HasF w' g d l m ex lg := h.kept (Only.of_below hb []) (by simp)
theorem HasF.frz (h : HasF w g d l m ex lg) (i : Nat) : w.frozen? ⟨g, i, none⟩ = false := by obtain ⟨cs, hh, _⟩ := h.ex_cs; exact frozen_of_heap hh i
theorem HasF.c0 (h : HasF w g d l m ex lg) : w.cell? ⟨g, 0, none⟩ = some (.int .u32 d) := by obtain ⟨cs, hh, r⟩ := h.ex_cs; rw [cell_of_heap hh]; exact r.c0
theorem HasF.c1 (h : HasF w g d l m ex lg) : w.cell? ⟨g, 1, none⟩ = some (.int .i32 l) := by obtain ⟨cs, hh, r⟩ := h.ex_cs; rw [cell_of_heap hh]; exact r.c1
theorem HasF.c3 (h : HasF w g d l m ex lg) : w.cell? ⟨g, 3, none⟩ = some (.int .i64 m) := by obtain ⟨cs, hh, r⟩ := h.ex_cs; rw [cell_of_heap hh]; exact r.c3
theorem HasF.cx (h : HasF w g d l m ex lg) {k : Nat} (hk : k < 510) : w.cell? ⟨g, 4 + k, none⟩ = some (.int .u8 ((ex k : Nat) : Int)) := by obtain ⟨cs, hh, r⟩ := h.ex_cs; rw [cell_of_heap hh]; exact r.cx k hk
theorem HasF.cl (h : HasF w g d l m ex lg) {k : Nat} (hk : k < 256) : w.cell? ⟨g, 514 + k, none⟩ = some (.int .i64 ((lg k : Nat) : Int)) := by obtain ⟨cs, hh, r⟩ := h.ex_cs; rw [cell_of_heap hh]; exact r.cl k hk
theorem set_ne (cs : Array Value) (i j : Nat) (u : Value) (h : i ≠ j) : (cs.setIfInBounds i u)[j]? = cs[j]? := by rw [Array.getElem?_setIfInBounds, if_neg h]
theorem set_eq (cs : Array Value) (i : Nat) (u : Value) (h : i < cs.size) : (cs.setIfInBounds i u)[i]? = some u := by simp [Array.getElem?_setIfInBounds, h]
theorem HasF.set0 (h : HasF w g d l m ex lg) (x : Int) : HasF (w.setCell ⟨g, 0, none⟩ (.int .u32 x)) g x l m ex lg := by
  obtain ⟨cs, hh, r⟩ := h.ex_cs
  exact ⟨_, heap_set hh _ _, by simp [r.size], set_eq _ _ _ (by rw [r.size]; omega), by rw [set_ne _ _ _ _ (by omega)]; exact r.c1, by rw [set_ne _ _ _ _ (by omega)]; exact r.c3, fun k hk => by rw [set_ne _ _ _ _ (by omega)]; exact r.cx k hk, fun k hk => by rw [set_ne _ _ _ _ (by omega)]; exact r.cl k hk⟩
theorem HasF.set1 (h : HasF w g d l m ex lg) (x : Int) : HasF (w.setCell ⟨g, 1, none⟩ (.int .i32 x)) g d x m ex lg := by
  obtain ⟨cs, hh, r⟩ := h.ex_cs
  exact ⟨_, heap_set hh _ _, by simp [r.size], by rw [set_ne _ _ _ _ (by omega)]; exact r.c0, set_eq _ _ _ (by rw [r.size]; omega), by rw [set_ne _ _ _ _ (by omega)]; exact r.c3, fun k hk => by rw [set_ne _ _ _ _ (by omega)]; exact r.cx k hk, fun k hk => by rw [set_ne _ _ _ _ (by omega)]; exact r.cl k hk⟩
theorem HasF.set3 (h : HasF w g d l m ex lg) (x : Int) : HasF (w.setCell ⟨g, 3, none⟩ (.int .i64 x)) g d l x ex lg := by
  obtain ⟨cs, hh, r⟩ := h.ex_cs
  exact ⟨_, heap_set hh _ _, by simp [r.size], by rw [set_ne _ _ _ _ (by omega)]; exact r.c0, by rw [set_ne _ _ _ _ (by omega)]; exact r.c1, set_eq _ _ _ (by rw [r.size]; omega), fun k hk => by rw [set_ne _ _ _ _ (by omega)]; exact r.cx k hk, fun k hk => by rw [set_ne _ _ _ _ (by omega)]; exact r.cl k hk⟩
theorem HasF.setx (h : HasF w g d l m ex lg) {i : Nat} (hi : i < 510) (x : Nat) : HasF (w.setCell ⟨g, 4 + i, none⟩ (.int .u8 (x : Int))) g d l m (fun j => if j = i then x else ex j) lg := by
  obtain ⟨cs, hh, r⟩ := h.ex_cs
  refine ⟨_, heap_set hh _ _, by simp [r.size], by rw [set_ne _ _ _ _ (by omega)]; exact r.c0, by rw [set_ne _ _ _ _ (by omega)]; exact r.c1, by rw [set_ne _ _ _ _ (by omega)]; exact r.c3, fun k hk => ?_, fun k hk => by rw [set_ne _ _ _ _ (by omega)]; exact r.cl k hk⟩
  by_cases he : k = i
  · subst he
    rw [set_eq _ _ _ (by rw [r.size]; omega), if_pos rfl]
  · rw [set_ne _ _ _ _ (by omega), if_neg he]
    exact r.cx k hk
theorem HasF.setl (h : HasF w g d l m ex lg) {i : Nat} (hi : i < 256) (x : Nat) : HasF (w.setCell ⟨g, 514 + i, none⟩ (.int .i64 (x : Int))) g d l m ex (fun j => if j = i then x else lg j) := by
  obtain ⟨cs, hh, r⟩ := h.ex_cs
  refine ⟨_, heap_set hh _ _, by simp [r.size], by rw [set_ne _ _ _ _ (by omega)]; exact r.c0, by rw [set_ne _ _ _ _ (by omega)]; exact r.c1, by rw [set_ne _ _ _ _ (by omega)]; exact r.c3, fun k hk => by rw [set_ne _ _ _ _ (by omega)]; exact r.cx k hk, fun k hk => ?_⟩
  by_cases he : k = i
  · subst he
    rw [set_eq _ _ _ (by rw [r.size]; omega), if_pos rfl]
  · rw [set_ne _ _ _ _ (by omega), if_neg he]
    exact r.cl k hk
end Go.Proofs.Ytpmhoocigdkhbaa.Fl
