/- The document's desk in a block, and its functions: each answers by the same plain functions as the program's. -/
import Derived.Test.YtjpdjhmajjbgmaaPreempt
import Derived.Laws.Rows
import Derived.BigQuiet
import Derived.StillTailTactics
import Derived.Deep.DeepCutAuto
namespace Go.Proofs.Ytjpdjhmajjbgmaa.Res
open Go.RowKit
set_option linter.unusedVariables false
/-- A document's desk at block g. -/
structure HasR (w : World) (g : Nat) (d : Dk) : Prop where
  heap : w.heap[g]? = some (.cells d.cells 46 (0, 0))
  len : d.keys.length = 16
section
variable {w w' : World} {g : Nat} {d : Dk}
theorem HasR.lt (h : HasR w g d) : g < w.heap.size := lt_of_heap h.heap
theorem HasR.kept {S : List Nat} (h : HasR w g d) (ho : Only S w w') (hg : g ∉ S) : HasR w' g d := ⟨(ho.block g h.lt hg).trans h.heap, h.len⟩
theorem HasR.frozen (h : HasR w g d) (i : Nat) : w.frozen? ⟨g, i, none⟩ = false := frozen_of_heap h.heap i
theorem HasR.keyCell (h : HasR w g d) {i : Nat} (hi : i < 16) : w.cell? ⟨g, i, none⟩ = some (.int .u64 (d.key i)) := by
  rw [cell_of_heap h.heap, Dk.cells, List.getElem?_toArray, vals_key h.len hi]
theorem HasR.holderCell (h : HasR w g d) : w.cell? ⟨g, 16, none⟩ = some (.int .i64 d.holder) := by
  rw [cell_of_heap h.heap, Dk.cells, List.getElem?_toArray, Dk.vals, List.getElem?_append_right (by simp [h.len])]
  simp [h.len]
theorem HasR.kindCell (h : HasR w g d) : w.cell? ⟨g, 17, none⟩ = some (.int .i64 d.kind) := by
  rw [cell_of_heap h.heap, Dk.cells, List.getElem?_toArray, Dk.vals, List.getElem?_append_right (by simp [h.len])]
  simp [h.len]
theorem HasR.keepCell (h : HasR w g d) : w.cell? ⟨g, 18, none⟩ = some (.bool d.keep) := by
  rw [cell_of_heap h.heap, Dk.cells, List.getElem?_toArray, Dk.vals, List.getElem?_append_right (by simp [h.len])]
  simp [h.len]
theorem HasR.setKey (h : HasR w g d) {i : Nat} (hi : i < 16) (k : Int) : HasR (w.setCell ⟨g, i, none⟩ (.int .u64 k)) g { d with keys := d.keys.set i k } := by
  refine ⟨?_, by simp [h.len]⟩
  rw [heap_set h.heap]
  simp only [Dk.cells, Dk.vals, List.setIfInBounds_toArray, List.map_set]
  rw [List.set_append_left _ _ (by simp [h.len]; exact hi)]
theorem HasR.setHolder (h : HasR w g d) (k : Int) : HasR (w.setCell ⟨g, 16, none⟩ (.int .i64 k)) g { d with holder := k } := by
  refine ⟨?_, h.len⟩
  rw [heap_set h.heap]
  simp only [Dk.cells, Dk.vals, List.setIfInBounds_toArray]
  rw [List.set_append_right _ _ (by simp [h.len])]
  simp [h.len]
theorem HasR.setKind (h : HasR w g d) (k : Int) : HasR (w.setCell ⟨g, 17, none⟩ (.int .i64 k)) g { d with kind := k } := by
  refine ⟨?_, h.len⟩
  rw [heap_set h.heap]
  simp only [Dk.cells, Dk.vals, List.setIfInBounds_toArray]
  rw [List.set_append_right _ _ (by simp [h.len])]
  simp [h.len]
theorem HasR.setKeep (h : HasR w g d) (k : Bool) : HasR (w.setCell ⟨g, 18, none⟩ (.bool k)) g { d with keep := k } := by
  refine ⟨?_, h.len⟩
  rw [heap_set h.heap]
  simp only [Dk.cells, Dk.vals, List.setIfInBounds_toArray]
  rw [List.set_append_right _ _ (by simp [h.len])]
  simp [h.len]
end
theorem cells_size {d : Dk} (hl : d.keys.length = 16) : d.cells.size = 19 := by simp [Dk.cells, Dk.vals, hl]
set_option maxRecDepth 100000 in
theorem u41 : ∃ fs, Try.prog.underlying 46 = some (.struct fs) := ⟨_, rfl⟩
theorem info41 {d : Dk} (hl : d.keys.length = 16) : (Try.prog.info? 46).map (·.size) = some d.cells.size := by rw [cells_size hl]; kernel_rfl
theorem one41 (d : Dk) : d.cells.all (·.oneCell') = true := by
  rw [Array.all_eq_true_iff_forall_mem]
  intro v hv
  simp only [Dk.cells, Dk.vals, List.mem_toArray, List.mem_append, List.mem_map, List.mem_cons, List.not_mem_nil, or_false] at hv
  rcases hv with ⟨k, _, rfl⟩ | rfl | rfl | rfl <;> rfl
theorem wpStill_load_row {P : Program} {ops : Array Oper} {rest : List Oper} {o : Oper} {a : Act} {w : World} {Q : Act → Prop} (hgd : o.guard = none) (ty : TypeId) (x : Operand) (ho : o.op = .load ty x)
    (g : Nat) (hx : a.eval x = .pointer (some ⟨g, 0, none⟩)) (t : TypeId) (cs : Array Value) (fr : Nat × Nat) (d : TypeDesc) (hg : w.heap[g]? = some (.cells cs t fr))
    (hu : P.underlying ty = some d) (hd : (match d with | .struct _ | .array _ _ => true | _ => false) = true) (hi : (P.info? ty).map (·.size) = some cs.size)
    (h : wpStill P ops w Q rest (a.put o.dst (.agg cs))) : wpStill P ops w Q (o :: rest) a := by
  refine wpStill_step (fun K hK => ?_)
  simp only [Region.wanted, hgd, if_true]
  have h1 : (execOp a.eval o).run P w = .ok (.value (.agg cs)) w := by
    unfold execOp
    simp only [ho, hx, Instr.loadAt, Instr.sureAddr, Sem.run_bind, Sem.run_pure, Result.andThen_ok, run_loadVar_row w g t ty cs fr d hg hu hd hi]
  unfold Oper.still
  rw [h1, Oper.stillUpon_value]
  exact hK _ h
theorem results_tc {P : Program} {fn : Func} {p u : Tmp} {ty : TypeId} (h : fn.results = #[.tmp u, .cell p ty]) (tmps : Array Value) (w : World) (g : Nat) (t : TypeId) (cs : Array Value) (fr : Nat × Nat) (d : TypeDesc)
    (hp : tmps.getD p undef = .pointer (some ⟨g, 0, none⟩)) (hg : w.heap[g]? = some (.cells cs t fr))
    (hu : P.underlying ty = some d) (hd : (match d with | .struct _ | .array _ _ => true | _ => false) = true) (hi : (P.info? ty).map (·.size) = some cs.size) :
    (results fn tmps).run P w = .ok (.tuple #[tmps.getD u undef, .agg cs]) w := by
  have hp' : tmps[p]?.getD undef = .pointer (some ⟨g, 0, none⟩) := by simpa using hp
  simp [results, h, hp', asAddr, run_loadVar_row w g t ty cs fr d hg hu hd hi]
theorem heap_setRow {w : World} {g : Nat} {cs : Array Value} {t : TypeId} (h : w.heap[g]? = some (.cells cs t (0, 0))) (cs' : Array Value) : (w.setRow g cs').heap[g]? = some (.cells cs' t (0, 0)) := by
  simp [World.setRow, Array.getElem?_modify, h]
theorem HasR.setRow {w : World} {g : Nat} {d : Dk} (h : HasR w g d) (d' : Dk) (hl : d'.keys.length = 16) : HasR (w.setRow g d'.cells) g d' := ⟨heap_setRow h.heap _, hl⟩
theorem Only.setRow {w : World} {g : Nat} (cs : Array Value) : Only [g] w (w.setRow g cs) := by
  refine ⟨rfl, rfl, rfl, by simp [World.setRow], fun k _ hn => ?_⟩
  have hne : ¬ g = k := by intro h; exact hn (by simp [h])
  simp [World.setRow, Array.getElem?_modify, hne]
theorem HasR.drew_ {w : World} {g : Nat} {d : Dk} (h : HasR w g d) : HasR w.drew g d := ⟨h.heap, h.len⟩
/-- Behind the box and the result's cell. -/
structure Two (w0 w : World) (b1 b2 : Nat) (d r : Dk) : Prop where
  box : HasR w b1 d
  res : HasR w b2 r
  ne : b1 ≠ b2
  lo1 : w0.heap.size ≤ b1
  lo2 : w0.heap.size ≤ b2
  below : Below w0.heap.size w0 w
theorem two_start (w : World) (d : Dk) (hl : d.keys.length = 16) : Two w ((w.alloc (.cells d.cells 46)).alloc (.cells Dk.new.cells 46)) w.heap.size (w.heap.size + 1) d Dk.new :=
  ⟨⟨heap_alloc2_old w _ _, hl⟩, ⟨heap_alloc2_new w _ _, rfl⟩, by omega, Nat.le_refl _, by omega, ((Below.refl _ _).alloc (Nat.le_refl _) _).alloc (by show w.heap.size ≤ (w.heap.push _).size; simp) _⟩
section
variable {w0 w w' : World} {b1 b2 : Nat} {d d' r r' : Dk}
theorem Two.drew_ (h : Two w0 w b1 b2 d r) : Two w0 w.drew b1 b2 d r := ⟨⟨h.box.heap, h.box.len⟩, ⟨h.res.heap, h.res.len⟩, h.ne, h.lo1, h.lo2, h.below.drew⟩
theorem Two.drewN_ (h : Two w0 w b1 b2 d r) (n : Nat) : Two w0 (w.drewN n) b1 b2 d r := ⟨⟨h.box.heap, h.box.len⟩, ⟨h.res.heap, h.res.len⟩, h.ne, h.lo1, h.lo2, ⟨h.below.os, h.below.tape, h.below.output, h.below.size, h.below.block⟩⟩
theorem Two.onBox (h : Two w0 w b1 b2 d r) (ho : Only [b1] w w') (hd : HasR w' b1 d') : Two w0 w' b1 b2 d' r :=
  ⟨hd, h.res.kept ho (by simp; exact fun hh => h.ne hh.symm), h.ne, h.lo1, h.lo2, Only.below h.below ho (Nat.le_of_lt (Nat.lt_of_le_of_lt h.lo1 h.box.lt)) (by simp; exact h.lo1)⟩
theorem Two.onRes (h : Two w0 w b1 b2 d r) (ho : Only [b2] w w') (hd : HasR w' b2 r') : Two w0 w' b1 b2 d r' :=
  ⟨h.box.kept ho (by simp; exact h.ne), hd, h.ne, h.lo1, h.lo2, Only.below h.below ho (Nat.le_of_lt (Nat.lt_of_le_of_lt h.lo1 h.box.lt)) (by simp; exact h.lo2)⟩
theorem Two.kept (h : Two w0 w b1 b2 d r) (hb : Below w.heap.size w w') : Two w0 w' b1 b2 d r :=
  ⟨h.box.kept (Only.of_below hb []) (by simp), h.res.kept (Only.of_below hb []) (by simp), h.ne, h.lo1, h.lo2, h.below.trans (hb.mono (Nat.le_of_lt (Nat.lt_of_le_of_lt h.lo1 h.box.lt)))⟩
end
theorem rin_any (n : Int) (w : World) : Calls Try.prog 42 #[.int .i64 n] w fun e w' => e = .returned (.bool (decide (isIn n))) ∧ w' = w := by
  by_cases h0 : 0 ≤ n
  · by_cases h1 : n < 16
    · have hr : decide (isIn n) = true := decide_eq_true ⟨h0, h1⟩
      have HR := Lib.hid hr
      clear hr
      go_enter Try.func42, Try.ntmps42
      go_wp2
      go_ret
      exact ⟨by rw [HR.out]; rfl, rfl⟩
    · have hr : decide (isIn n) = false := decide_eq_false (fun h => h1 h.2)
      have HR := Lib.hid hr
      clear hr
      go_enter Try.func42, Try.ntmps42
      go_wp2
      go_ret
      exact ⟨by rw [HR.out]; rfl, rfl⟩
  · have hr : decide (isIn n) = false := decide_eq_false (fun h => h0 h.1)
    have HR := Lib.hid hr
    clear hr
    go_enter Try.func42, Try.ntmps42
    go_wp2
    go_ret
    exact ⟨by rw [HR.out]; rfl, rfl⟩
end Go.Proofs.Ytjpdjhmajjbgmaa.Res
