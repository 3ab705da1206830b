/- Words for a desk: sixteen keys, the holder, the kind, whether to keep: as plain data, and as the cells of a block. What each call answers and leaves, as plain functions. -/
import Derived.Test.YtjpdjhmajjbgmaaProg
import Derived.WalkKit
import Derived.OwnWalk
import Derived.Below
import Derived.Laws.OwnMore
import Derived.Deep.Draws
import Derived.Lib.Hide
namespace Go.Proofs.Ytjpdjhmajjbgmaa.Res
open Go.RowKit
structure Dk where
  keys : List Int
  holder : Int
  kind : Int
  keep : Bool
def Dk.vals (d : Dk) : List Value := d.keys.map (.int .u64) ++ [.int .i64 d.holder, .int .i64 d.kind, .bool d.keep]
def Dk.cells (d : Dk) : Array Value := d.vals.toArray
def Dk.key (d : Dk) (i : Nat) : Int := d.keys.getD i 0
/-- What a walk may turn: the blocks of S alone, and what is new. -/
structure Only (S : List Nat) (w w' : World) : Prop where
  os : w'.os = w.os
  tape : w'.tape = w.tape
  output : w'.output = w.output
  size : w.heap.size ≤ w'.heap.size
  block : ∀ k, k < w.heap.size → k ∉ S → w'.heap[k]? = w.heap[k]?
theorem Only.refl (S : List Nat) (w : World) : Only S w w := ⟨rfl, rfl, rfl, Nat.le_refl _, fun _ _ _ => rfl⟩
theorem Only.of_below {w w' : World} (h : Below w.heap.size w w') (S : List Nat) : Only S w w' := ⟨h.os, h.tape, h.output, h.size, fun k hk _ => h.block k hk⟩
theorem Only.trans {S T : List Nat} {a b c : World} (h : Only S a b) (k : Only T b c) (hT : ∀ x ∈ T, x ∈ S ∨ a.heap.size ≤ x) : Only S a c :=
  ⟨k.os.trans h.os, k.tape.trans h.tape, k.output.trans h.output, Nat.le_trans h.size k.size, fun i hi hn => by
    rw [k.block i (Nat.lt_of_lt_of_le hi h.size) (fun hm => by rcases hT i hm with h1 | h1; · exact hn h1
                                                               · omega), h.block i hi hn]⟩
theorem Only.trans1 {g : Nat} {a b c : World} (h : Only [g] a b) (k : Only [g] b c) : Only [g] a c := h.trans k (fun _ hx => .inl hx)
theorem Only.below {S : List Nat} {B : Nat} {a w w' : World} (hb : Below B a w) (h : Only S w w') (hB : B ≤ w.heap.size) (hS : ∀ x ∈ S, B ≤ x) : Below B a w' :=
  hb.trans ⟨h.os, h.tape, h.output, h.size, fun k hk => h.block k (by omega) (fun hm => by have := hS k hm; omega)⟩
theorem Only.set {w : World} {p : Addr} (u : Value) : Only [p.block] w (w.setCell p u) :=
  ⟨rfl, rfl, rfl, by simp [World.setCell], fun k _ hn => Below.heap_setCell w p u k (by simpa using hn)⟩
theorem Only.set_ {S : List Nat} {a w : World} (h : Only S a w) {p : Addr} (hp : p.block ∈ S) (u : Value) : Only S a (w.setCell p u) :=
  h.trans (Only.set u) (fun x hx => .inl (by simp at hx; subst hx; exact hp))
theorem Only.drew_ {S : List Nat} {a w : World} (h : Only S a w) : Only S a w.drew := ⟨h.os, h.tape, h.output, h.size, h.block⟩
theorem Only.drewN_ {S : List Nat} {a w : World} (h : Only S a w) (n : Nat) : Only S a (w.drewN n) := ⟨h.os, h.tape, h.output, h.size, h.block⟩
theorem Only.alloc_ {S : List Nat} {a w : World} (h : Only S a w) (o : Obj) : Only S a (w.alloc o) :=
  h.trans (Only.of_below ((Below.refl _ _).alloc (Nat.le_refl _) o) []) (by simp)
theorem lt_of_heap {w : World} {g : Nat} {o : Obj} (h : w.heap[g]? = some o) : g < w.heap.size := by
  rcases Nat.lt_or_ge g w.heap.size with hlt | hge
  · exact hlt
  · rw [Array.getElem?_eq_none hge] at h; cases h
theorem cell_of_heap {w : World} {g : Nat} {cs : Array Value} {t : TypeId} (h : w.heap[g]? = some (.cells cs t (0, 0))) (i : Nat) : w.cell? ⟨g, i, none⟩ = cs[i]? := by
  simp [World.cell?, h]
theorem frozen_of_heap {w : World} {g : Nat} {cs : Array Value} {t : TypeId} (h : w.heap[g]? = some (.cells cs t (0, 0))) (i : Nat) : w.frozen? ⟨g, i, none⟩ = false := by
  simp [World.frozen?, h]
theorem heap_set {w : World} {g : Nat} {cs : Array Value} {t : TypeId} (h : w.heap[g]? = some (.cells cs t (0, 0))) (i : Nat) (u : Value) : (w.setCell ⟨g, i, none⟩ u).heap[g]? = some (.cells (cs.setIfInBounds i u) t (0, 0)) := by
  simp [World.setCell, Array.getElem?_modify, h]
/-- A desk at block g. -/
structure HasD (w : World) (g : Nat) (d : Dk) : Prop where
  heap : w.heap[g]? = some (.cells d.cells 68 (0, 0))
  len : d.keys.length = 16
section
variable {w w' : World} {g : Nat} {d : Dk}
theorem HasD.lt (h : HasD w g d) : g < w.heap.size := lt_of_heap h.heap
theorem HasD.kept {S : List Nat} (h : HasD w g d) (ho : Only S w w') (hg : g ∉ S) : HasD w' g d := ⟨(ho.block g h.lt hg).trans h.heap, h.len⟩
theorem HasD.frozen (h : HasD w g d) (i : Nat) : w.frozen? ⟨g, i, none⟩ = false := frozen_of_heap h.heap i
theorem vals_key (hl : d.keys.length = 16) {i : Nat} (hi : i < 16) : d.vals[i]? = some (.int .u64 (d.key i)) := by
  unfold Dk.vals Dk.key
  rw [List.getElem?_append_left (by simp; omega), List.getElem?_map, List.getD_eq_getElem?_getD, List.getElem?_eq_getElem (by omega)]
  rfl
theorem HasD.keyCell (h : HasD w g d) {i : Nat} (hi : i < 16) : w.cell? ⟨g, i, none⟩ = some (.int .u64 (d.key i)) := by
  rw [cell_of_heap h.heap, Dk.cells, List.getElem?_toArray, vals_key h.len hi]
theorem HasD.holderCell (h : HasD w g d) : w.cell? ⟨g, 16, none⟩ = some (.int .i64 d.holder) := by
  rw [cell_of_heap h.heap, Dk.cells, List.getElem?_toArray, Dk.vals, List.getElem?_append_right (by simp [h.len])]
  simp [h.len]
theorem HasD.kindCell (h : HasD w g d) : w.cell? ⟨g, 17, none⟩ = some (.int .i64 d.kind) := by
  rw [cell_of_heap h.heap, Dk.cells, List.getElem?_toArray, Dk.vals, List.getElem?_append_right (by simp [h.len])]
  simp [h.len]
theorem HasD.keepCell (h : HasD w g d) : w.cell? ⟨g, 18, none⟩ = some (.bool d.keep) := by
  rw [cell_of_heap h.heap, Dk.cells, List.getElem?_toArray, Dk.vals, List.getElem?_append_right (by simp [h.len])]
  simp [h.len]
theorem HasD.setKey (h : HasD w g d) {i : Nat} (hi : i < 16) (k : Int) : HasD (w.setCell ⟨g, i, none⟩ (.int .u64 k)) g { d with keys := d.keys.set i k } := by
  refine ⟨?_, by simp [h.len]⟩
  rw [heap_set h.heap]
  simp only [Dk.cells, Dk.vals, List.setIfInBounds_toArray, List.map_set]
  rw [List.set_append_left _ _ (by simp [h.len]; exact hi)]
theorem HasD.setHolder (h : HasD w g d) (k : Int) : HasD (w.setCell ⟨g, 16, none⟩ (.int .i64 k)) g { d with holder := k } := by
  refine ⟨?_, h.len⟩
  rw [heap_set h.heap]
  simp only [Dk.cells, Dk.vals, List.setIfInBounds_toArray]
  rw [List.set_append_right _ _ (by simp [h.len])]
  simp [h.len]
theorem HasD.setKind (h : HasD w g d) (k : Int) : HasD (w.setCell ⟨g, 17, none⟩ (.int .i64 k)) g { d with kind := k } := by
  refine ⟨?_, h.len⟩
  rw [heap_set h.heap]
  simp only [Dk.cells, Dk.vals, List.setIfInBounds_toArray]
  rw [List.set_append_right _ _ (by simp [h.len])]
  simp [h.len]
theorem HasD.setKeep (h : HasD w g d) (k : Bool) : HasD (w.setCell ⟨g, 18, none⟩ (.bool k)) g { d with keep := k } := by
  refine ⟨?_, h.len⟩
  rw [heap_set h.heap]
  simp only [Dk.cells, Dk.vals, List.setIfInBounds_toArray]
  rw [List.set_append_right _ _ (by simp [h.len])]
  simp [h.len]
end
/-! What the calls answer and leave. -/
def isIn (n : Int) : Prop := 0 ≤ n ∧ n < 16
instance (n : Int) : Decidable (isIn n) := by unfold isIn; infer_instance
def Dk.new : Dk := ⟨List.replicate 16 0, 0, 0, false⟩
def Dk.wiped (d : Dk) : Dk := ⟨List.replicate 16 0, 0, 0, d.keep⟩
def Dk.fault (d : Dk) (n : Int) : Int := if isIn n then (if d.key n.toNat = 0 then 10 else 0) else 2
def Dk.regE (_ : Dk) (n : Int) : Int := if isIn n then 0 else 2
def Dk.reg (d : Dk) (n k : Int) (keep : Bool) : Dk := if isIn n then ⟨d.keys.set n.toNat k, d.holder, if k = 0 ∧ d.holder = n then 0 else d.kind, keep⟩ else d
def Dk.resE (d : Dk) (n k : Int) : Int := if ¬ isIn n ∨ k < 1 ∨ 4 < k then 2 else if d.key n.toNat = 0 then 10 else if d.kind ≠ 0 ∧ (d.holder ≠ n ∨ d.kind ≠ k) then 12 else 0
def Dk.res (d : Dk) (n k : Int) : Dk := if d.resE n k = 0 then { d with holder := n, kind := k } else d
def Dk.relE (d : Dk) (n : Int) : Int := if d.fault n ≠ 0 then d.fault n else if d.kind ≠ 0 ∧ d.holder ≠ n then 12 else 0
def Dk.rel (d : Dk) (n : Int) : Dk := if d.relE n = 0 then { d with kind := 0 } else d
def Dk.clr (d : Dk) (n : Int) : Dk := if d.fault n = 0 then d.wiped else d
def Dk.lose (d : Dk) : Dk := if d.keep then d else d.wiped
def Dk.may (d : Dk) (n : Int) (write : Bool) : Bool :=
  if isIn n then
    (if d.kind = 0 ∨ d.holder = n then true else if d.kind = 1 then !write else if d.kind = 3 then (!write || decide (d.key n.toNat ≠ 0)) else if d.kind = 4 then decide (d.key n.toNat ≠ 0) else false)
  else false
/-- Who else has key k? -/
def Dk.others (d : Dk) (n k : Int) (j : Nat) : Bool := (List.range j).any fun i => decide ((i : Int) ≠ n) && decide (d.key i = k)
def Dk.held (d : Dk) (n k : Int) (j : Nat) : Bool := (List.range j).any fun i => (decide ((i : Int) ≠ n) && decide (d.key i = k)) && (decide (d.kind ≠ 0) && decide (d.holder = (i : Int)))
def Dk.struck (d : Dk) (n k : Int) (j : Nat) : List Int := (List.range 16).map fun i => if i < j ∧ (i : Int) ≠ n ∧ d.key i = k then 0 else d.key i
def Dk.preE (d : Dk) (n k : Int) : Int := if ¬ isIn n ∨ k = 0 then 2 else if d.key n.toNat = 0 then 10 else if d.others n k 16 then 0 else 10
def Dk.pre (d : Dk) (n k : Int) : Dk := if d.preE n k = 0 then ⟨d.struck n k 16, if d.held n k 16 then n else d.holder, d.kind, d.keep⟩ else d
end Go.Proofs.Ytjpdjhmajjbgmaa.Res
