/- Plain mathematics for DlmShared: shared tickets, and tickets alone on one range; and a slice of numbers that came in. -/
import Derived.Test.YtgegkebbbpapiaaAsked
import Derived.ChangeSlices
import Derived.OpenShut
namespace Go.Proofs.Ytgegkebbbpapiaa.Dlm
open Go.RowKit Go.ChangeShapes Go.WideShapes
/-- A slice of numbers that came in. -/
def InInts (w : World) (k : IntKind) (A : Option Addr) (xs : List Int) : Prop :=
  xs = [] ∨ ∃ b off, A = some ⟨b, off, none⟩ ∧ b < w.heap.size ∧ ∀ i x, xs[i]? = some x → w.cell? ⟨b, off + i, none⟩ = some (.int k x)
theorem InInts.below {w w' : World} {k : IntKind} {A : Option Addr} {os : List Int} (h : InInts w k A os) (hb : Below w.heap.size w w') : InInts w' k A os := by
  rcases h with h | ⟨b, off, hA, hlt, h⟩
  · exact .inl h
  · exact .inr ⟨b, off, hA, Nat.lt_of_lt_of_le hlt hb.size, fun i o ho => (bcell hb b _ hlt).trans (h i o ho)⟩
theorem open_u16s {H : Type} {enc : TypeId × Value → H} {W : World} {base : Nat} {v : Value} {d : DataW H} {p : List MemPlace} (hv : Value.okWide Try.prog W .any base 40 v) (h : DataW.Trod enc Try.prog W 0 (fun _ => true) true 40 v d p) :
    ∃ (A : Option Addr) (cap : Nat) (xs : List Int), v = .slice A xs.length cap ∧ xs.length ≤ cap ∧ cap ≤ maxLen ∧ InInts W .u16 A xs ∧ ∀ x ∈ xs, (Lit.int .u16 x).wf = true := by
  obtain ⟨a0, len0, cap0, rfl⟩ := okWide_slice Try.underlying40 hv
  obtain ⟨fuel, hf⟩ := h
  rcases open_ints Try.underlying40 Try.underlying42 (by kernel_rfl) hf with ⟨hc, _⟩ | ⟨a, len, cap, zs, hc, _, hl, hm, hz, _, hcell, hwz⟩
  · simp [Value.cells] at hc
    obtain ⟨rfl, rfl, rfl⟩ := hc
    exact ⟨none, 0, [], rfl, Nat.le_refl _, by unfold maxLen; omega, .inl rfl, fun o ho => by cases ho⟩
  · simp [Value.cells] at hc
    obtain ⟨rfl, rfl, rfl⟩ := hc
    have hzl : zs.length = cap0 := by simpa using hz
    have hlen : (zs.take len0).length = len0 := by simp; omega
    refine ⟨some a, cap0, zs.take len0, by rw [hlen], by rw [hlen]; exact hl, hm, ?_, fun x hx => hwz x (List.mem_of_mem_take hx)⟩
    rcases Nat.eq_zero_or_pos len0 with h0 | h0
    · subst h0; exact .inl rfl
    · have hc0 := hcell 0 (by omega)
      rw [show a.add 0 = a from rfl] at hc0
      obtain ⟨hs, hb⟩ := addr_plain hc0
      obtain ⟨b, off, spot⟩ := a
      simp only at hs hb
      subst hs
      refine .inr ⟨b, off, rfl, hb, fun i x hx => ?_⟩
      have hil : i < len0 := by have := (List.getElem?_eq_some_iff.1 hx).1; omega
      have := hcell i (by omega)
      rw [addr_add] at this
      rw [this]
      rw [List.getElem?_take_of_lt hil] at hx
      rw [List.getD_eq_getElem?_getD, hx]
      rfl
/-- Tickets that nobody wants alone are granted, all. -/
theorem st_shared (ts : List Tk) (h : ∀ t ∈ ts, t.alone = false ∧ t.gone = false) (i : Nat) (hi : i < ts.length) : stOf ts i = 2 := by
  have ht : ts[i]? = some ts[i] := List.getElem?_eq_getElem hi
  have hst : stOf ts i = if ts[i].gone then 3 else live (busy (ts.take i) ts[i]) := by unfold stOf; rw [ht]
  have hm := h ts[i] (List.getElem_mem hi)
  rw [hst, hm.2]
  have hb : busy (ts.take i) ts[i] = false := by
    unfold busy
    rw [List.any_eq_false]
    intro x hx
    have := h x (List.mem_of_mem_take hx)
    simp [conf, this.1, hm.1]
  rw [hb]
  rfl
theorem those_shared (ts : List Tk) (h : ∀ t ∈ ts, t.alone = false ∧ t.gone = false) : (those ts 2 ts.length).length = ts.length ∧ (those ts 1 ts.length).length = 0 := by
  unfold those
  constructor
  · rw [List.filter_eq_self.2]
    · simp
    · intro i hi
      rw [st_shared ts h i (List.mem_range.1 hi)]; rfl
  · rw [List.length_eq_zero_iff, List.filter_eq_nil_iff]
    intro i hi
    rw [st_shared ts h i (List.mem_range.1 hi)]; decide
/-- m tickets alone on one range, the first j gone. -/
def line (m j : Nat) : List Tk := (List.range m).map fun (i : Nat) => (⟨(i : Int) % 16, 3, 5, true, decide (i < j)⟩ : Tk)
theorem line_length (m j : Nat) : (line m j).length = m := by simp [line]
theorem line_at (m j i : Nat) (hi : i < m) : (line m j)[i]? = some ⟨(i : Int) % 16, 3, 5, true, decide (i < j)⟩ := by
  simp [line, hi]
theorem st_line (m j i : Nat) (hi : i < m) : stOf (line m j) i = if i < j then 3 else if i = j then 2 else 1 := by
  have hst : stOf (line m j) i = if decide (i < j) then 3 else live (busy ((line m j).take i) ⟨(i : Int) % 16, 3, 5, true, decide (i < j)⟩) := by unfold stOf; rw [line_at m j i hi]
  rw [hst]
  by_cases h1 : i < j
  · simp [h1]
  · simp only [h1, decide_false, Bool.false_eq_true, if_false]
    by_cases h2 : i = j
    · subst h2
      rw [if_pos rfl]
      have : busy ((line m i).take i) ⟨(i : Int) % 16, 3, 5, true, false⟩ = false := by
        unfold busy
        rw [List.any_eq_false]
        intro x hx
        rw [List.mem_take_iff_getElem] at hx
        obtain ⟨q, hq, rfl⟩ := hx
        simp [line] at hq ⊢
        omega
      rw [this]; rfl
    · rw [if_neg h2]
      have : busy ((line m j).take i) ⟨(i : Int) % 16, 3, 5, true, false⟩ = true := by
        unfold busy
        rw [List.any_eq_true]
        refine ⟨⟨(j : Int) % 16, 3, 5, true, decide (j < j)⟩, ?_, by simp [conf]⟩
        rw [List.mem_take_iff_getElem]
        exact ⟨j, by simp [line]; omega, by simp [line]⟩
      rw [this]; rfl
theorem line_gone (m j : Nat) (hj : j < m) : gone (line m j) j = line m (j + 1) := by
  unfold gone
  rw [line_at m j j hj]
  simp only
  apply List.ext_getElem?
  intro i
  rw [List.getElem?_set]
  by_cases hij : j = i
  · subst hij
    rw [if_pos rfl, if_pos (by rw [line_length]; exact hj), line_at m (j + 1) j hj]
    simp
  · rw [if_neg hij]
    by_cases hi : i < m
    · rw [line_at m j i hi, line_at m (j + 1) i hi]
      congr 2
      simp only [decide_eq_decide]
      omega
    · rw [List.getElem?_eq_none (by rw [line_length]; omega), List.getElem?_eq_none (by rw [line_length]; omega)]
theorem those_line (m j : Nat) : those (line m j) 2 m = if j < m then [j] else [] := by
  have key : ∀ k, k ≤ m → those (line m j) 2 k = if j < k then [j] else [] := by
    intro k
    induction k with
    | zero => intro _; simp [those]
    | succ k ih =>
      intro hk
      rw [those_succ, ih (by omega), st_line m j k (by omega)]
      by_cases h1 : k < j
      · have a : ¬ j < k := by omega
        have b : ¬ j < k + 1 := by omega
        simp [a, b, h1]
      · by_cases h2 : k = j
        · subst h2; simp
        · have a : j < k := by omega
          have b : j < k + 1 := by omega
          simp [a, b, h1, h2]
  exact key m (Nat.le_refl _)
theorem wait_line (m j : Nat) (hj : j < m) : (those (line m j) 1 m).length = m - 1 - j := by
  have key : ∀ k, k ≤ m → (those (line m j) 1 k).length = k - (j + 1) := by
    intro k
    induction k with
    | zero => intro _; simp [those]
    | succ k ih =>
      intro hk
      rw [those_succ, List.length_append, ih (by omega), st_line m j k (by omega)]
      by_cases h1 : k < j
      · simp [h1]; omega
      · by_cases h2 : k = j
        · simp [h2]
        · simp [h1, h2]; omega
  rw [key m (Nat.le_refl _)]
  omega
theorem line_snoc (m : Nat) : line m 0 ++ [⟨(m : Int) % 16, 3, 5, true, false⟩] = line (m + 1) 0 := by
  unfold line
  rw [List.range_succ, List.map_append]
  simp
end Go.Proofs.Ytgegkebbbpapiaa.Dlm
