/- A command that came in, with the bounds of its bytes and key. -/
import Derived.Test.YtlkibkemmmppcaaCin
namespace Go.Proofs.Ytlkibkemmmppcaa.Wd
open Go.RowKit Go.ChangeShapes Go.WideShapes Go.Deep
set_option linter.unusedVariables false
set_option linter.unusedSimpArgs false
theorem wf_u8 {x : Int} (h : (Lit.int .u8 x).wf = true) : 0 ≤ x ∧ x ≤ 255 := by
  simp [Lit.wf] at h
  have e0 : IntKind.u8.min = 0 := by decide
  have e1 : IntKind.u8.max = 255 := by decide
  omega
theorem wf_u64 {x : Int} (h : (Lit.int .u64 x).wf = true) : 0 ≤ x ∧ x < 18446744073709551616 := by
  simp [Lit.wf] at h
  have e0 : IntKind.u64.min = 0 := by decide
  have e1 : IntKind.u64.max = 18446744073709551615 := by decide
  omega
section
variable {H : Type} {enc : TypeId × Value → H} {W : World} {base : Nat} {spare : Nat → Bool} {held : Bool}
/-- Sectors that came in. -/
theorem open_secs2 {fuel : Nat} {cs : List Value} {x : DataW H × List MemPlace} (hsp : ∀ b, spare b = true) (h : DataW.trod enc Try.prog W base spare held fuel 22 cs = some x) :
    ∃ (A : Option Addr) (n cap : Nat) (bs : List Int), cs = [.slice A n cap] ∧ Rd W (.slice A n cap) n 16 (u8s bs) ∧ ((x.1 = .nil ∧ n = 0) ∨ ∃ els sp, x.1 = .slice els sp ∧ els.length + sp.length = cap) ∧ ∀ x ∈ bs, 0 ≤ x ∧ x ≤ 255 := by
  rcases open_slice Try.underlying22 h with ⟨hc, hx⟩ | ⟨a, len, cap, m, n, D, Pl, hc, hb, hl, hm, hmm, hx, hi⟩
  · exact ⟨none, 0, 0, [], hc, Rd.nil W 16, .inl ⟨by rw [hx], rfl⟩, fun x hx => by cases hx⟩
  · rw [hsp, if_pos rfl] at hmm
    subst hmm
    have key : ∀ i, i < len → ∀ j, j < 16 → ∃ z : Int, W.cell? (a.add (i * 16 + j)) = some (.int .u8 z) ∧ (0 ≤ z ∧ z ≤ 255) := by
      intro i hil j hj
      obtain ⟨cs', hcs, ht⟩ := hi i (by omega)
      have h41 : Try.prog.cellsOf 41 = 16 := by kernel_rfl
      rw [h41] at hcs
      obtain ⟨_, hlen, hat⟩ := World.cells?_some hcs
      obtain ⟨xs, k, _, _, hcl, hxl, hd⟩ := DataW.trod_array Try.underlying41 ht
      have h5 : Try.prog.cellsOf 5 = 1 := by kernel_rfl
      have hd1 := hd j hj
      rw [h5, Nat.mul_one, List.drop_eq_getElem_cons (by omega)] at hd1
      have hd1 : DataW.trod enc Try.prog W base spare held k 5 [cs'[j]'(by omega)] = xs[j]? := hd1
      rw [List.getElem?_eq_getElem (by omega)] at hd1
      obtain ⟨z, e, _, hw⟩ := DataW.trod_int Try.underlying5 hd1
      simp only [List.cons.injEq, and_true] at e
      refine ⟨z, ?_, wf_u8 hw⟩
      rw [← Go.Deep.add_add, hat j hj, List.getElem?_eq_getElem (by omega), e]
    have key2 : ∀ q, ∃ z : Int, q < len * 16 → (W.cell? (a.add q) = some (.int .u8 z) ∧ (0 ≤ z ∧ z ≤ 255)) := by
      intro q
      by_cases hq : q < len * 16
      · obtain ⟨z, hz, hzr⟩ := key (q / 16) (by omega) (q % 16) (by omega)
        refine ⟨z, fun _ => ?_⟩
        rw [show q / 16 * 16 + q % 16 = q by omega] at hz
        exact ⟨hz, hzr⟩
      · exact ⟨0, fun h => absurd h hq⟩
    obtain ⟨F, hF⟩ := Classical.skolem.1 key2
    have hul : (u8s ((List.range (len * 16)).map F)).length = len * 16 := by unfold u8s; simp
    refine ⟨some a, len, m, (List.range (len * 16)).map F, hc, ⟨hul, some a, m, rfl, hl, hm, fun h => (by cases h), fun h0 => ?_⟩, .inr ?_, ?_⟩
    · have c0 := (hF 0 (by omega)).1
      rw [show a.add 0 = a from rfl] at c0
      have hpl : a.spot = none ∧ a.block < W.heap.size := addr_plain c0
      obtain ⟨b, off, spot⟩ := a
      obtain ⟨hs, hbl⟩ := hpl
      simp only at hs hbl
      subst hs
      refine ⟨b, off, rfl, hbl, fun j u hu => ?_⟩
      have hj : j < len * 16 := by have := (List.getElem?_eq_some_iff.1 hu).1; omega
      have := (hF j hj).1
      rw [addr_add] at this
      rw [this]
      unfold u8s at hu
      rw [List.getElem?_map, List.getElem?_map, List.getElem?_range hj] at hu
      exact hu
    · rw [hx]
      exact ⟨_, _, rfl, by simp; omega⟩
    · intro x hx
      rw [List.mem_map] at hx
      obtain ⟨q, hq, rfl⟩ := hx
      exact (hF q (List.mem_range.1 hq)).2
end
open Go.WideShapes in
theorem open_cmd2 {H : Type} {enc : TypeId × Value → H} {W : World} {base : Nat} {v : Value} {d : DataW H} {p : List MemPlace} (hv : Value.okWide Try.prog W .any base 25 v) (h : DataW.Trod enc Try.prog W 0 (fun _ => true) true 25 v d p)
    (hz : ∀ n ∈ d.weights Try.prog 25, n ≤ reachBytes) :
    ∃ (c : Cmd) (dv : Value), v = c.val dv ∧ Secs W dv c ∧ c.n * 16 ≤ 140737488355328 ∧ (∀ x ∈ c.bs, 0 ≤ x ∧ x ≤ 255) ∧ (0 ≤ c.key ∧ c.key < 18446744073709551616) := by
  obtain ⟨cs, rfl, hcs⟩ := okWide_struct Try.underlying25 hv
  obtain ⟨fuel, hf⟩ := h
  obtain ⟨xs, n, _, hx, hcl, hxl, hd⟩ := DataW.trod_struct Try.underlying25 hf
  have h25 : Try.prog.cellsOf 25 = 7 := by kernel_rfl
  rw [h25] at hcs hcl
  have hl7 : cs.toList.length = 7 := by simpa using hcs
  have hcc : (Value.agg cs).cells.toList = cs.toList := rfl
  rw [hcc] at hd
  obtain ⟨c0, c1, c2, c3, c4, c5, c6, hc7⟩ : ∃ c0 c1 c2 c3 c4 c5 c6, cs.toList = [c0, c1, c2, c3, c4, c5, c6] := by
    match hm : cs.toList, hl7 with
    | [c0, c1, c2, c3, c4, c5, c6], _ => exact ⟨c0, c1, c2, c3, c4, c5, c6, rfl⟩
  have hca : cs = #[c0, c1, c2, c3, c4, c5, c6] := by rw [← Array.toArray_toList (xs := cs), hc7]
  rw [hc7] at hd
  have k3 : Try.prog.cellsOf 3 = 1 := by kernel_rfl
  have k22 : Try.prog.cellsOf 22 = 1 := by kernel_rfl
  have k23 : Try.prog.cellsOf 23 = 1 := by kernel_rfl
  have k4 : Try.prog.cellsOf 4 = 1 := by kernel_rfl
  have d0 : DataW.trod enc Try.prog W 0 (fun _ => true) true n 3 (([c0, c1, c2, c3, c4, c5, c6].drop 0).take (Try.prog.cellsOf 3)) = xs[0]? := hd 0 _ rfl
  rw [k3] at d0
  have d0 : DataW.trod enc Try.prog W 0 (fun _ => true) true n 3 [c0] = xs[0]? := d0
  have d1 : DataW.trod enc Try.prog W 0 (fun _ => true) true n 3 (([c0, c1, c2, c3, c4, c5, c6].drop 1).take (Try.prog.cellsOf 3)) = xs[1]? := hd 1 _ rfl
  rw [k3] at d1
  have d1 : DataW.trod enc Try.prog W 0 (fun _ => true) true n 3 [c1] = xs[1]? := d1
  have d2 : DataW.trod enc Try.prog W 0 (fun _ => true) true n 3 (([c0, c1, c2, c3, c4, c5, c6].drop 2).take (Try.prog.cellsOf 3)) = xs[2]? := hd 2 _ rfl
  rw [k3] at d2
  have d2 : DataW.trod enc Try.prog W 0 (fun _ => true) true n 3 [c2] = xs[2]? := d2
  have d3 : DataW.trod enc Try.prog W 0 (fun _ => true) true n 22 (([c0, c1, c2, c3, c4, c5, c6].drop 3).take (Try.prog.cellsOf 22)) = xs[3]? := hd 3 _ rfl
  rw [k22] at d3
  have d3 : DataW.trod enc Try.prog W 0 (fun _ => true) true n 22 [c3] = xs[3]? := d3
  have d4 : DataW.trod enc Try.prog W 0 (fun _ => true) true n 23 (([c0, c1, c2, c3, c4, c5, c6].drop 4).take (Try.prog.cellsOf 23)) = xs[4]? := hd 4 _ rfl
  rw [k23] at d4
  have d4 : DataW.trod enc Try.prog W 0 (fun _ => true) true n 23 [c4] = xs[4]? := d4
  have d5 : DataW.trod enc Try.prog W 0 (fun _ => true) true n 3 (([c0, c1, c2, c3, c4, c5, c6].drop 5).take (Try.prog.cellsOf 3)) = xs[5]? := hd 5 _ rfl
  rw [k3] at d5
  have d5 : DataW.trod enc Try.prog W 0 (fun _ => true) true n 3 [c5] = xs[5]? := d5
  have d6 : DataW.trod enc Try.prog W 0 (fun _ => true) true n 4 (([c0, c1, c2, c3, c4, c5, c6].drop 6).take (Try.prog.cellsOf 4)) = xs[6]? := hd 6 _ rfl
  rw [k4] at d6
  have d6 : DataW.trod enc Try.prog W 0 (fun _ => true) true n 4 [c6] = xs[6]? := d6
  have hx7 : xs.length = 7 := hxl
  rw [List.getElem?_eq_getElem (by omega)] at d0 d1 d2 d3 d4 d5 d6
  obtain ⟨n0, e0, _, _⟩ := DataW.trod_int Try.underlying3 d0
  obtain ⟨n1, e1, _, _⟩ := DataW.trod_int Try.underlying3 d1
  obtain ⟨n2, e2, _, _⟩ := DataW.trod_int Try.underlying3 d2
  obtain ⟨A, m, cap, bs, e3, hrd, hw, hbr⟩ := open_secs2 (fun _ => rfl) d3
  obtain ⟨n4, e4, _, hw4⟩ := DataW.trod_int Try.underlying23 d4
  obtain ⟨n5, e5, _, _⟩ := DataW.trod_int Try.underlying3 d5
  obtain ⟨b6, e6, _⟩ := DataW.trod_bool Try.underlying4 d6
  simp only [List.cons.injEq, and_true] at e0 e1 e2 e3 e4 e5 e6
  subst e0 e1 e2 e3 e4 e5 e6
  refine ⟨⟨n0, n1, n2, m, bs, n4, n5, b6⟩, .slice A m cap, by rw [hca]; rfl, hrd, ?_, hbr, wf_u64 hw4⟩
  obtain ⟨_, A', cap', hv', hmc, _, hz0, h2⟩ := hrd
  simp only [Value.slice.injEq] at hv'
  obtain ⟨_, _, hcap⟩ := hv'
  have hmc : m ≤ cap' := hmc
  have hd' : d = .agg (xs.map (·.1)) := by simp only [Prod.mk.injEq] at hx; exact hx.1
  have hbig : reachBytes ≤ 140737488355328 := by decide
  have hn := hz
  rcases hw with ⟨hw, h0⟩ | ⟨els, sp, hw, hlen⟩
  · show m * 16 ≤ _; omega
  · have hmem : (els.length + sp.length) * Try.prog.bytesOf 41 ∈ d.weights Try.prog 25 := by
      rw [hd']
      have hu : (DataW.agg (xs.map (·.1))).weights Try.prog 25 = DataW.weightsEach Try.prog [3, 3, 3, 22, 23, 3, 4] (xs.map (·.1)) := by
        simp only [DataW.weights, Try.underlying25]; rfl
      rw [hu]
      refine DataW.weights_mem_each (j := 3) (t := 22) (d := .slice els sp) rfl ?_ _ ?_
      · rw [List.getElem?_map, List.getElem?_eq_getElem (by omega), ← hw]; rfl
      · simp [DataW.weights, Try.underlying22]
    have h16 : Try.prog.bytesOf 41 = 16 := by kernel_rfl
    have := hz _ hmem
    rw [h16, hlen, hcap] at this
    show m * 16 ≤ _
    omega
end Go.Proofs.Ytlkibkemmmppcaa.Wd
