/- A script that came in, read as a list of steps. -/
import Derived.Test.YtgegkebbbpapiaaWalk4
import Derived.Deep.Slices
import Derived.Deep.Fields
import Derived.ChangeSame
namespace Go.Proofs.Ytgegkebbbpapiaa.Dlm
open Go.RowKit Go.ChangeShapes Go.WideShapes Go.Deep
/-- A step of a script: kind, owner, lo, hi, alone. -/
structure Op5 where
  kind : Int
  owner : Int
  lo : Int
  hi : Int
  alone : Bool
def Op5.cells (o : Op5) : List Value := [.int .i64 o.kind, .int .i64 o.owner, .int .i64 o.lo, .int .i64 o.hi, .bool o.alone]
def opcs (os : List Op5) : List Value := os.flatMap Op5.cells
def Op5.tk (o : Op5) : Tk := ⟨o.owner, o.lo, o.hi, o.alone, false⟩
def Op5.ok (o : Op5) : Bool := decide (0 ≤ o.owner) && (decide (o.owner ≤ 15) && (decide (0 ≤ o.lo) && decide (o.lo ≤ o.hi)))
/-- A script that came in. -/
def InOps (w : World) (A : Option Addr) (os : List Op5) : Prop :=
  os = [] ∨ ∃ b off, A = some ⟨b, off, none⟩ ∧ b < w.heap.size ∧ ∀ i o, os[i]? = some o →
    w.cell? ⟨b, off + i * 5, none⟩ = some (.int .i64 o.kind) ∧ w.cell? ⟨b, off + i * 5 + 1, none⟩ = some (.int .i64 o.owner) ∧ w.cell? ⟨b, off + i * 5 + 2, none⟩ = some (.int .i64 o.lo) ∧
    w.cell? ⟨b, off + i * 5 + 3, none⟩ = some (.int .i64 o.hi) ∧ w.cell? ⟨b, off + i * 5 + 4, none⟩ = some (.bool o.alone)
theorem InOps.below {w w' : World} {A : Option Addr} {os : List Op5} (h : InOps w A os) (hb : Below w.heap.size w w') : InOps w' A os := by
  rcases h with h | ⟨b, off, hA, hlt, h⟩
  · exact .inl h
  · refine .inr ⟨b, off, hA, Nat.lt_of_lt_of_le hlt hb.size, fun i o ho => ?_⟩
    simp only [bcell hb b _ hlt]
    exact h i o ho
section
variable {H : Type} {enc : TypeId × Value → H} {P : Program} {w : World} {base : Nat} {spare : Nat → Bool} {held : Bool}
theorem open_slice_fields {t e : TypeId} {fs : Array Field} {fuel : Nat} {cs : List Value} {x : DataW H × List MemPlace} (ht : P.underlying t = some (.slice e)) (he : P.underlying e = some (.struct fs))
    (hone : oneCellFields P fs = true) (hC : P.cellsOf e = fs.size) (h : DataW.trod enc P w base spare held fuel t cs = some x) :
    (cs = [.slice none 0 0] ∧ x = (.nil, [])) ∨
    ∃ (a : Addr) (len cap m : Nat) (D : Nat → DataW H) (Pl : Nat → List MemPlace), cs = [.slice (some a) len cap] ∧ base ≤ a.block ∧ len ≤ cap ∧ cap ≤ maxLen ∧ m = (if spare a.block then cap else len) ∧
      x = (.slice ((List.range len).map D) ((List.range (m - len)).map fun j => D (len + j)), MemPlace.row a (m * fs.size) ++ (List.range m).flatMap Pl) ∧
      ∀ i, i < m → ∃ (ys : List (DataW H × List MemPlace)) (n : Nat), D i = .agg (ys.map (·.1)) ∧ Pl i = ys.flatMap (·.2) ∧ ys.length = fs.size ∧
        ∀ (j : Nat) (f : Field), fs[j]? = some f → ∃ (v : Value) (y : DataW H × List MemPlace), w.cell? (a.add (i * fs.size + j)) = some v ∧ ys[j]? = some y ∧ DataW.trod enc P w base spare held n f.type [v] = some y := by
  rcases open_slice ht h with h0 | ⟨a, len, cap, m, n, D, Pl, hcs, hb, hl, hm, hmm, hx, hi⟩
  · exact .inl h0
  · refine .inr ⟨a, len, cap, m, D, Pl, hcs, hb, hl, hm, hmm, by rw [hC] at hx; exact hx, fun i him => ?_⟩
    obtain ⟨cs', hc, ht'⟩ := hi i him
    rw [hC] at hc
    obtain ⟨ys, n', hn', hy, hlen, hyl, hf⟩ := DataW.trod_struct he ht'
    obtain ⟨_, hcl, hat⟩ := World.cells?_some hc
    simp only [Prod.mk.injEq] at hy
    refine ⟨ys, n', hy.1, hy.2, hyl, fun j f hj => ?_⟩
    obtain ⟨ho, hk⟩ := hone_of hone j f hj
    have hjl : j < fs.size := (Array.getElem?_eq_some_iff.1 hj).1
    have hcell := hat j hjl
    have hv : cs'[j]? = some (cs'[j]'(by omega)) := List.getElem?_eq_getElem (by omega)
    have h1 := hf j f hj
    rw [ho, hk] at h1
    have hone' : (cs'.drop j).take 1 = [cs'[j]'(by omega)] := by
      rw [List.drop_eq_getElem_cons (by omega)]
      rfl
    rw [hone'] at h1
    have hys : ys[j]? = some (ys[j]'(by omega)) := List.getElem?_eq_getElem (by omega)
    refine ⟨_, _, ?_, hys, h1.trans hys⟩
    rw [← Go.Deep.add_add, hcell, hv]
end
theorem addr_add (b off : Nat) (k : Nat) : (⟨b, off, none⟩ : Addr).add k = ⟨b, off + k, none⟩ := by
  unfold Addr.add; split <;> simp_all
theorem addr_plain {w : World} {a : Addr} {v : Value} (h : w.cell? a = some v) : a.spot = none ∧ a.block < w.heap.size := by
  obtain ⟨b, off, spot⟩ := a
  unfold World.cell? at h
  simp only at h
  cases hh : w.heap[b]? with
  | none => rw [hh] at h; cases h
  | some o =>
    refine ⟨?_, lt_of_heap hh⟩
    rw [hh] at h
    cases o with
    | cells c e f =>
      simp only at h
      split at h
      · cases h
      · rename_i hn
        cases spot with
        | none => rfl
        | some x => simp at hn
    | _ => cases h
theorem open_ops {H : Type} {enc : TypeId × Value → H} {W : World} {base : Nat} {v : Value} {d : DataW H} {p : List MemPlace} (hv : Value.okWide Try.prog W .any base 22 v) (h : DataW.Trod enc Try.prog W 0 (fun _ => true) true 22 v d p) :
    ∃ (A : Option Addr) (cap : Nat) (os : List Op5), v = .slice A os.length cap ∧ os.length ≤ cap ∧ cap ≤ maxLen ∧ InOps W A os ∧
      ∀ o ∈ os, (Lit.int .i64 o.kind).wf = true ∧ (Lit.int .i64 o.owner).wf = true ∧ (Lit.int .i64 o.lo).wf = true ∧ (Lit.int .i64 o.hi).wf = true := by
  obtain ⟨a0, len0, cap0, rfl⟩ := okWide_slice Try.underlying22 hv
  obtain ⟨fuel, hf⟩ := h
  rcases open_slice_fields Try.underlying22 Try.underlying28 (by kernel_rfl) (by kernel_rfl) hf with ⟨hc, _⟩ | ⟨a, len, cap, m, D, Pl, hc, _, hl, hm, hmm, _, hi⟩
  · simp [Value.cells] at hc
    obtain ⟨rfl, rfl, rfl⟩ := hc
    exact ⟨none, 0, [], rfl, Nat.le_refl _, by unfold maxLen; omega, .inl rfl, fun o ho => by cases ho⟩
  · simp [Value.cells] at hc
    obtain ⟨rfl, rfl, rfl⟩ := hc
    have hmc : m = cap0 := by simpa using hmm
    have key : ∀ i, ∃ o : Op5, i < len0 → (W.cell? (a.add (i * 5)) = some (.int .i64 o.kind) ∧ W.cell? (a.add (i * 5 + 1)) = some (.int .i64 o.owner) ∧ W.cell? (a.add (i * 5 + 2)) = some (.int .i64 o.lo) ∧
        W.cell? (a.add (i * 5 + 3)) = some (.int .i64 o.hi) ∧ W.cell? (a.add (i * 5 + 4)) = some (.bool o.alone)) ∧
        ((Lit.int .i64 o.kind).wf = true ∧ (Lit.int .i64 o.owner).wf = true ∧ (Lit.int .i64 o.lo).wf = true ∧ (Lit.int .i64 o.hi).wf = true) := by
      intro i
      by_cases hil : i < len0
      · obtain ⟨ys, n, _, _, _, hfl⟩ := hi i (by omega)
        obtain ⟨v0, y0, c0, _, t0⟩ := hfl 0 _ rfl
        obtain ⟨v1, y1, c1, _, t1⟩ := hfl 1 _ rfl
        obtain ⟨v2, y2, c2, _, t2⟩ := hfl 2 _ rfl
        obtain ⟨v3, y3, c3, _, t3⟩ := hfl 3 _ rfl
        obtain ⟨v4, y4, c4, _, t4⟩ := hfl 4 _ rfl
        obtain ⟨n0, e0, _, w0⟩ := DataW.trod_int Try.underlying3 t0
        obtain ⟨n1, e1, _, w1⟩ := DataW.trod_int Try.underlying3 t1
        obtain ⟨n2, e2, _, w2⟩ := DataW.trod_int Try.underlying3 t2
        obtain ⟨n3, e3, _, w3⟩ := DataW.trod_int Try.underlying3 t3
        obtain ⟨b4, e4, _⟩ := DataW.trod_bool Try.underlying4 t4
        simp only [List.cons.injEq, and_true] at e0 e1 e2 e3 e4
        subst e0 e1 e2 e3 e4
        exact ⟨⟨n0, n1, n2, n3, b4⟩, fun _ => ⟨⟨c0, c1, c2, c3, c4⟩, w0, w1, w2, w3⟩⟩
      · exact ⟨⟨0, 0, 0, 0, false⟩, fun h => absurd h hil⟩
    obtain ⟨F, hF⟩ := Classical.skolem.1 key
    have hlen : ((List.range len0).map F).length = len0 := by simp
    refine ⟨some a, cap0, (List.range len0).map F, by rw [hlen], by rw [hlen]; exact hl, hm, ?_, ?_⟩
    · rcases Nat.eq_zero_or_pos len0 with h0 | h0
      · subst h0; exact .inl rfl
      · have hc0 := (hF 0 h0).1.1
        rw [Nat.zero_mul, show a.add 0 = a from rfl] at hc0
        obtain ⟨hs, hb⟩ := addr_plain hc0
        obtain ⟨b, off, spot⟩ := a
        simp only at hs hb
        subst hs
        refine .inr ⟨b, off, rfl, hb, fun i o ho => ?_⟩
        have hil : i < len0 := by have := (List.getElem?_eq_some_iff.1 ho).1; simpa using this
        rw [List.getElem?_map, List.getElem?_range hil] at ho
        injection ho with ho
        subst ho
        obtain ⟨⟨c0, c1, c2, c3, c4⟩, _⟩ := hF i hil
        simp only [addr_add] at c0 c1 c2 c3 c4
        exact ⟨c0, c1, c2, c3, c4⟩
    · intro o ho
      rw [List.mem_map] at ho
      obtain ⟨i, hi', rfl⟩ := ho
      exact (hF i (List.mem_range.1 hi')).2
end Go.Proofs.Ytgegkebbbpapiaa.Dlm
