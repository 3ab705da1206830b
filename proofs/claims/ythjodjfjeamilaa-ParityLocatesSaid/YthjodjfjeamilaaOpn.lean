/- Columns and bytes that came in. -/
import Derived.Test.YthjodjfjeamilaaPurA
import Derived.Deep.Matrix
import Derived.ChangeSlices
import Derived.OpenShut
set_option linter.unusedVariables false
set_option linter.unusedSimpArgs false
namespace Go.Proofs.Ythjodjfjeamilaa.Pur
open Go Go.RowKit Go.WideShapes Go.ChangeShapes Go.Deep Go.Proofs.YthjodjfjeamilaaW.PrintWords Go.Proofs.YthjodjfjeamilaaW.PrintLast Go.Proofs.YthjodjfjeamilaaW.PrintMore Go.Proofs.Ythjodjfjeamilaa.PA
theorem wf8 {x : Int} (h : (Lit.int .u8 x).wf = true) : 0 ≤ x ∧ x ≤ 255 := by
  simp [Lit.wf] at h
  have e0 : IntKind.u8.min = 0 := by decide
  have e1 : IntKind.u8.max = 255 := by decide
  omega
/-- Numbers that are bytes, as natural numbers. -/
theorem as_nat {zs : List Int} (h : ∀ n ∈ zs, (Lit.int .u8 n).wf = true) : ∃ l : List Nat, zs = I l ∧ Byt l := by
  refine ⟨zs.map Int.toNat, ?_, ?_⟩
  · unfold I
    rw [List.map_map]
    conv => lhs; rw [← List.map_id zs]
    apply List.map_congr_left
    intro x hx
    have := wf8 (h x hx)
    show x = ((x.toNat : Nat) : Int)
    omega
  · intro x hx
    obtain ⟨y, hy, rfl⟩ := List.mem_map.1 hx
    have := wf8 (h y hy)
    omega
theorem I_take (l : List Nat) (n : Nat) : (I l).take n = I (l.take n) := by unfold I; rw [List.map_take]
theorem byt_take {l : List Nat} (h : Byt l) (n : Nat) : Byt (l.take n) := fun x hx => h x (List.mem_of_mem_take hx)
theorem open_bytes {H : Type} {enc : TypeId × Value → H} {W : World} {base : Nat} {v : Value} {d : DataW H} {p : List MemPlace} (hv : Value.okWide Try.prog W .any base 24 v) (h : DataW.Trod enc Try.prog W 0 (fun _ => true) true 24 v d p)
    (hz : ∀ n ∈ d.weights Try.prog 24, n ≤ reachBytes) :
    ∃ (A : Option Addr) (cap : Nat) (l : List Nat), v = .slice A (I l).length cap ∧ (I l).length ≤ cap ∧ Kd.C (Kd.int .u8) W A (I l).length (I l) ∧ Byt l ∧ l.length ≤ 140737488351232 := by
  obtain ⟨A, n, cap, rfl⟩ := okWide_slice Try.underlying24 hv
  obtain ⟨fuel, hf⟩ := h
  have h5 : Try.prog.cellsOf 5 = 1 := by kernel_rfl
  rcases open_ints Try.underlying24 Try.underlying5 h5 hf with ⟨hc, hx⟩ | ⟨a, len, cap', zs, hc, hb, hl, hm, hlen, hx, hcell, hwf⟩
  · have e : (Value.slice A n cap).cells.toList = [.slice A n cap] := rfl
    rw [e] at hc
    simp only [List.cons.injEq, and_true, Value.slice.injEq] at hc
    obtain ⟨rfl, rfl, rfl⟩ := hc
    exact ⟨none, 0, [], rfl, Nat.le_refl _, Kd.C_nil _ _, (fun x hx => by cases hx), by decide⟩
  · have e : (Value.slice A n cap).cells.toList = [.slice A n cap] := rfl
    rw [e] at hc
    simp only [List.cons.injEq, and_true, Value.slice.injEq] at hc
    obtain ⟨rfl, rfl, rfl⟩ := hc
    rw [if_pos rfl] at hlen
    obtain ⟨l, rfl, hb8⟩ := as_nat hwf
    have hzl : (I (l.take n)).length = n := by rw [← I_take]; simp; omega
    refine ⟨some a, cap, l.take n, by rw [hzl], by omega, ?_, byt_take hb8 n, ?_⟩
    · refine Kd.C_of_reads (d := (0 : Int)) ⟨rfl, by unfold maxLen at hm; omega, fun h0 => ⟨a, rfl, fun j hj => ?_⟩⟩
      have := hcell j (by omega)
      rw [this, ← I_take]
      rw [List.getD_eq_getElem?_getD, List.getD_eq_getElem?_getD, List.getElem?_take_of_lt (by omega)]
    · have hd' : d = .slice (lits .u8 ((I l).take n)) (lits .u8 ((I l).drop n)) := by simp only [Prod.mk.injEq] at hx; exact hx.1
      have b5 : Try.prog.bytesOf 5 = 1 := by kernel_rfl
      have hmem : ((lits (H := H) .u8 ((I l).take n)).length + (lits (H := H) .u8 ((I l).drop n)).length) * Try.prog.bytesOf 5 ∈ d.weights Try.prog 24 := by
        rw [hd']; simp [DataW.weights, Try.underlying24]
      have := hz _ hmem
      rw [b5] at this
      have hbig : reachBytes = 140737488351232 := by decide
      simp [lits] at this
      rw [I_len] at hzl
      rw [List.length_take]
      omega
theorem weights_all {H : Type} (P : Program) (e : TypeId) : ∀ (l : List (DataW H)) (d : DataW H), d ∈ l → ∀ n ∈ d.weights P e, n ∈ DataW.weightsAll P e l
  | x :: l, d, hd, n, hn => by
    rw [DataW.weightsAll]
    rcases List.mem_cons.1 hd with rfl | hd
    · exact List.mem_append_left _ hn
    · exact List.mem_append_right _ (weights_all P e l d hd n hn)
theorem bytt_of {cs : List (List Nat)} (h : ∀ (j : Nat) c, cs[j]? = some c → Byt c) : Bytt cs := by
  intro c hc
  obtain ⟨j, hj, rfl⟩ := List.getElem_of_mem hc
  exact h j _ (List.getElem?_eq_getElem hj)
theorem open_cols {H : Type} {enc : TypeId × Value → H} {W : World} {base : Nat} {v : Value} {d : DataW H} {p : List MemPlace} (hv : Value.okWide Try.prog W .any base 22 v) (h : DataW.Trod enc Try.prog W 0 (fun _ => true) true 22 v d p)
    (hz : ∀ n ∈ d.weights Try.prog 22, n ≤ reachBytes) :
    ∃ (A : Option Addr) (cap : Nat) (cs : List (List Nat)), v = .slice A (II cs).length cap ∧ (II cs).length ≤ cap ∧ Kd.C (Kd.slice 5 (Kd.int .u8)) W A (II cs).length (II cs) ∧ Bytt cs ∧ cs.length * 24 ≤ 140737488351232 ∧ ∀ c ∈ cs, c.length ≤ 140737488351232 := by
  obtain ⟨A, n, cap, rfl⟩ := okWide_slice Try.underlying22 hv
  obtain ⟨fuel, hf⟩ := h
  have h5 : Try.prog.cellsOf 5 = 1 := by kernel_rfl
  have h24 : Try.prog.cellsOf 24 = 1 := by kernel_rfl
  have hbig : reachBytes = 140737488351232 := by decide
  rcases open_int_rows Try.underlying22 Try.underlying24 Try.underlying5 h24 h5 hf with ⟨hc, hx⟩ | ⟨a, len, cap', AA, L, C, Z, hc, hb, hl, hm, hx, hrow⟩
  · have e : (Value.slice A n cap).cells.toList = [.slice A n cap] := rfl
    rw [e] at hc
    simp only [List.cons.injEq, and_true, Value.slice.injEq] at hc
    obtain ⟨rfl, rfl, rfl⟩ := hc
    exact ⟨none, 0, [], rfl, Nat.le_refl _, Kd.C_nil _ _, (fun c hc => by cases hc), by decide, fun c hc => by cases hc⟩
  · have e : (Value.slice A n cap).cells.toList = [.slice A n cap] := rfl
    rw [e] at hc
    simp only [List.cons.injEq, and_true, Value.slice.injEq] at hc
    obtain ⟨rfl, rfl, rfl⟩ := hc
    have key : ∀ r : Nat, ∃ l : List Nat, r < cap → Z r = I l ∧ Byt l := fun r => by
      by_cases hr : r < cap
      · obtain ⟨l, hl, hb⟩ := as_nat (hrow r hr).2.2.2.2.1
        exact ⟨l, fun _ => ⟨hl, hb⟩⟩
      · exact ⟨[], fun h => absurd h hr⟩
    obtain ⟨F, hF⟩ := Classical.skolem.1 key
    have hlen : (II ((List.range n).map fun r => (F r).take (L r))).length = n := by unfold II; simp
    have hget : ∀ (j : Nat) c, ((List.range n).map fun r => (F r).take (L r))[j]? = some c → j < n ∧ c = (F j).take (L j) := by
      intro j c hj
      have hjn : j < n := by have := (List.getElem?_eq_some_iff.1 hj).1; simpa using this
      rw [List.getElem?_map, List.getElem?_range hjn] at hj
      injection hj with hj
      exact ⟨hjn, hj.symm⟩
    have hd' : d = .slice ((List.range n).map fun r => intRow .u8 (AA r) (L r) (Z r)) ((List.range (cap - n)).map fun j => intRow .u8 (AA (n + j)) (L (n + j)) (Z (n + j))) := by simp only [Prod.mk.injEq] at hx; exact hx.1
    have hw : d.weights Try.prog 22 = (((List.range n).map fun r => intRow (H := H) .u8 (AA r) (L r) (Z r)).length + ((List.range (cap - n)).map fun j => intRow (H := H) .u8 (AA (n + j)) (L (n + j)) (Z (n + j))).length) * Try.prog.bytesOf 24 :: (DataW.weightsAll Try.prog 24 ((List.range n).map fun r => intRow (H := H) .u8 (AA r) (L r) (Z r)) ++ DataW.weightsAll Try.prog 24 ((List.range (cap - n)).map fun j => intRow (H := H) .u8 (AA (n + j)) (L (n + j)) (Z (n + j)))) := by
      rw [hd']; simp only [DataW.weights, Try.underlying22]
    have b24 : Try.prog.bytesOf 24 = 24 := by kernel_rfl
    have b5 : Try.prog.bytesOf 5 = 1 := by kernel_rfl
    refine ⟨some a, cap, (List.range n).map fun r => (F r).take (L r), by rw [hlen], by omega, ?_, ?_, ?_, ?_⟩
    · rw [hlen]
      refine ⟨hlen, by unfold maxLen at hm; omega, fun h0 => ⟨a, rfl, fun j q hq => ?_⟩⟩
      unfold II at hq
      rw [List.getElem?_map] at hq
      obtain ⟨c, hc, rfl⟩ := Option.map_eq_some_iff.1 hq
      obtain ⟨hjn, rfl⟩ := hget j c hc
      obtain ⟨r1, r2, r3, r4, r5, r6, r7⟩ := hrow j (by omega)
      obtain ⟨hz1, hz2⟩ := hF j (by omega)
      have hFl : (F j).length = C j := by rw [hz1, I_len] at r4; exact r4
      have hl2 : (I ((F j).take (L j))).length = L j := by rw [I_len, List.length_take]; omega
      refine ⟨[.slice (AA j) (L j) (C j)], rfl, ?_, ?_⟩
      · refine ⟨AA j, C j, by rw [hl2], by omega, ?_⟩
        refine Kd.C_of_reads (d := (0 : Int)) ⟨rfl, by rw [hl2]; unfold maxLen at r3; omega, fun h0 => ?_⟩
        cases hA : AA j with
        | none => exfalso; have := r6 hA; omega
        | some a' =>
          refine ⟨a', rfl, fun i hi => ?_⟩
          have := (r7 a' hA).2 i (by omega)
          rw [this, ← I_take, hz1, List.getD_eq_getElem?_getD, List.getD_eq_getElem?_getD, List.getElem?_take_of_lt (by omega)]
      · intro i u hu
        have hi : i = 0 := by have := (List.getElem?_eq_some_iff.1 hu).1; simp at this; exact this
        subst hi
        simp only [List.getElem?_cons_zero, Option.some.injEq] at hu
        subst hu
        rw [show j * (Kd.slice 5 (Kd.int .u8)).sz + 0 = j from by show j * 1 + 0 = j; omega]
        exact r1
    · apply bytt_of
      intro j c hj
      obtain ⟨hjn, rfl⟩ := hget j c hj
      exact byt_take (hF j (by omega)).2 _
    · have := hz _ (by rw [hw]; exact List.mem_cons_self)
      rw [b24] at this
      simp only [List.length_map, List.length_range] at this ⊢
      omega
    · intro c hc
      obtain ⟨j, hj, rfl⟩ := List.getElem_of_mem hc
      obtain ⟨hjn, e⟩ := hget j _ (List.getElem?_eq_getElem hj)
      rw [e]
      obtain ⟨r1, r2, r3, r4, r5, r6, r7⟩ := hrow j (by omega)
      obtain ⟨hz1, hz2⟩ := hF j (by omega)
      cases hA : AA j with
      | none => have := r6 hA; rw [List.length_take]; omega
      | some a' =>
        have hmem : (Z j).length ∈ d.weights Try.prog 22 := by
          rw [hw]
          refine List.mem_cons_of_mem _ (List.mem_append_left _ (weights_all Try.prog 24 _ (intRow (H := H) .u8 (AA j) (L j) (Z j)) (List.mem_map.2 ⟨j, List.mem_range.2 hjn, rfl⟩) _ ?_))
          unfold intRow
          rw [hA]
          simp only [DataW.weights, Try.underlying24, b5]
          simp [lits]
          left
          rw [r4]
          omega
        have := hz _ hmem
        rw [List.length_take]
        omega
end Go.Proofs.Ythjodjfjeamilaa.Pur
