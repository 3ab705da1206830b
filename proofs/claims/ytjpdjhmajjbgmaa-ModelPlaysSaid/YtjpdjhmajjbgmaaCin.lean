/- A command that came in. -/
import Derived.Test.YtjpdjhmajjbgmaaCmd
import Derived.OpenShut
import Derived.ChangeArms
import Derived.WideShapes
import Derived.SizedLaws
import Derived.Deep.Slices
import Derived.ChangeSlices
namespace Go.Proofs.Ytjpdjhmajjbgmaa.Wd
open Go.RowKit Go.ChangeShapes Go.WideShapes Go.Deep
set_option linter.unusedVariables false
set_option linter.unusedSimpArgs false
theorem addr_plain {w : World} {a : Addr} {v : Value} (h : w.cell? a = some v) : a.spot = none ∧ a.block < w.heap.size := by
  obtain ⟨b, off, spot⟩ := a
  unfold World.cell? at h
  simp only at h
  cases hh : w.heap[b]? with
  | none => rw [hh] at h; cases h
  | some o =>
    refine ⟨?_, lt_of_heap hh⟩
    rw [hh] at h
    cases o with
    | cells c e f =>
      simp only at h
      split at h
      · cases h
      · rename_i hn
        cases spot with
        | none => rfl
        | some x => simp at hn
    | _ => cases h
section
variable {H : Type} {enc : TypeId × Value → H} {W : World} {base : Nat} {spare : Nat → Bool} {held : Bool}
/-- Sectors that came in. -/
theorem open_secs {fuel : Nat} {cs : List Value} {x : DataW H × List MemPlace} (hsp : ∀ b, spare b = true) (h : DataW.trod enc Try.prog W base spare held fuel 22 cs = some x) :
    ∃ (A : Option Addr) (n cap : Nat) (bs : List Int), cs = [.slice A n cap] ∧ Rd W (.slice A n cap) n 16 (u8s bs) ∧ ((x.1 = .nil ∧ n = 0) ∨ ∃ els sp, x.1 = .slice els sp ∧ els.length + sp.length = cap) := by
  rcases open_slice Try.underlying22 h with ⟨hc, hx⟩ | ⟨a, len, cap, m, n, D, Pl, hc, hb, hl, hm, hmm, hx, hi⟩
  · exact ⟨none, 0, 0, [], hc, Rd.nil W 16, .inl ⟨by rw [hx], rfl⟩⟩
  · rw [hsp, if_pos rfl] at hmm
    subst hmm
    have key : ∀ i, i < len → ∀ j, j < 16 → ∃ z : Int, W.cell? (a.add (i * 16 + j)) = some (.int .u8 z) := by
      intro i hil j hj
      obtain ⟨cs', hcs, ht⟩ := hi i (by omega)
      have h41 : Try.prog.cellsOf 24 = 16 := by kernel_rfl
      rw [h41] at hcs
      obtain ⟨_, hlen, hat⟩ := World.cells?_some hcs
      obtain ⟨xs, k, _, _, hcl, hxl, hd⟩ := DataW.trod_array Try.underlying24 ht
      have h5 : Try.prog.cellsOf 5 = 1 := by kernel_rfl
      have hd1 := hd j hj
      rw [h5, Nat.mul_one, List.drop_eq_getElem_cons (by omega)] at hd1
      have hd1 : DataW.trod enc Try.prog W base spare held k 5 [cs'[j]'(by omega)] = xs[j]? := hd1
      rw [List.getElem?_eq_getElem (by omega)] at hd1
      obtain ⟨z, e, _, _⟩ := DataW.trod_int Try.underlying5 hd1
      simp only [List.cons.injEq, and_true] at e
      refine ⟨z, ?_⟩
      rw [← Go.Deep.add_add, hat j hj, List.getElem?_eq_getElem (by omega), e]
    have key2 : ∀ q, ∃ z : Int, q < len * 16 → W.cell? (a.add q) = some (.int .u8 z) := by
      intro q
      by_cases hq : q < len * 16
      · obtain ⟨z, hz⟩ := key (q / 16) (by omega) (q % 16) (by omega)
        refine ⟨z, fun _ => ?_⟩
        rw [show q / 16 * 16 + q % 16 = q by omega] at hz
        exact hz
      · exact ⟨0, fun h => absurd h hq⟩
    obtain ⟨F, hF⟩ := Classical.skolem.1 key2
    have hul : (u8s ((List.range (len * 16)).map F)).length = len * 16 := by unfold u8s; simp
    refine ⟨some a, len, m, (List.range (len * 16)).map F, hc, ⟨hul, some a, m, rfl, hl, hm, fun h => (by cases h), fun h0 => ?_⟩, .inr ?_⟩
    · have c0 := hF 0 (by omega)
      rw [show a.add 0 = a from rfl] at c0
      have hpl : a.spot = none ∧ a.block < W.heap.size := addr_plain c0
      obtain ⟨b, off, spot⟩ := a
      obtain ⟨hs, hbl⟩ := hpl
      simp only at hs hbl
      subst hs
      refine ⟨b, off, rfl, hbl, fun j u hu => ?_⟩
      have hj : j < len * 16 := by have := (List.getElem?_eq_some_iff.1 hu).1; omega
      have := hF j hj
      rw [addr_add] at this
      rw [this]
      unfold u8s at hu
      rw [List.getElem?_map, List.getElem?_map, List.getElem?_range hj] at hu
      exact hu
    · rw [hx]
      exact ⟨_, _, rfl, by simp; omega⟩
end
open Go.WideShapes in
theorem open_cmd {H : Type} {enc : TypeId × Value → H} {W : World} {base : Nat} {v : Value} {d : DataW H} {p : List MemPlace} (hv : Value.okWide Try.prog W .any base 35 v) (h : DataW.Trod enc Try.prog W 0 (fun _ => true) true 35 v d p)
    (hz : ∀ n ∈ d.weights Try.prog 35, n ≤ reachBytes) :
    ∃ (c : Cmd) (dv : Value), v = c.val dv ∧ Secs W dv c ∧ c.n * 16 ≤ 140737488355328 := by
  obtain ⟨cs, rfl, hcs⟩ := okWide_struct Try.underlying35 hv
  obtain ⟨fuel, hf⟩ := h
  obtain ⟨xs, n, _, hx, hcl, hxl, hd⟩ := DataW.trod_struct Try.underlying35 hf
  have h25 : Try.prog.cellsOf 35 = 7 := by kernel_rfl
  rw [h25] at hcs hcl
  have hl7 : cs.toList.length = 7 := by simpa using hcs
  have hcc : (Value.agg cs).cells.toList = cs.toList := rfl
  rw [hcc] at hd
  obtain ⟨c0, c1, c2, c3, c4, c5, c6, hc7⟩ : ∃ c0 c1 c2 c3 c4 c5 c6, cs.toList = [c0, c1, c2, c3, c4, c5, c6] := by
    match hm : cs.toList, hl7 with
    | [c0, c1, c2, c3, c4, c5, c6], _ => exact ⟨c0, c1, c2, c3, c4, c5, c6, rfl⟩
  have hca : cs = #[c0, c1, c2, c3, c4, c5, c6] := by rw [← Array.toArray_toList (xs := cs), hc7]
  rw [hc7] at hd
  have k3 : Try.prog.cellsOf 3 = 1 := by kernel_rfl
  have k22 : Try.prog.cellsOf 22 = 1 := by kernel_rfl
  have k23 : Try.prog.cellsOf 33 = 1 := by kernel_rfl
  have k4 : Try.prog.cellsOf 4 = 1 := by kernel_rfl
  have d0 : DataW.trod enc Try.prog W 0 (fun _ => true) true n 3 (([c0, c1, c2, c3, c4, c5, c6].drop 0).take (Try.prog.cellsOf 3)) = xs[0]? := hd 0 _ rfl
  rw [k3] at d0
  have d0 : DataW.trod enc Try.prog W 0 (fun _ => true) true n 3 [c0] = xs[0]? := d0
  have d1 : DataW.trod enc Try.prog W 0 (fun _ => true) true n 3 (([c0, c1, c2, c3, c4, c5, c6].drop 1).take (Try.prog.cellsOf 3)) = xs[1]? := hd 1 _ rfl
  rw [k3] at d1
  have d1 : DataW.trod enc Try.prog W 0 (fun _ => true) true n 3 [c1] = xs[1]? := d1
  have d2 : DataW.trod enc Try.prog W 0 (fun _ => true) true n 3 (([c0, c1, c2, c3, c4, c5, c6].drop 2).take (Try.prog.cellsOf 3)) = xs[2]? := hd 2 _ rfl
  rw [k3] at d2
  have d2 : DataW.trod enc Try.prog W 0 (fun _ => true) true n 3 [c2] = xs[2]? := d2
  have d3 : DataW.trod enc Try.prog W 0 (fun _ => true) true n 22 (([c0, c1, c2, c3, c4, c5, c6].drop 3).take (Try.prog.cellsOf 22)) = xs[3]? := hd 3 _ rfl
  rw [k22] at d3
  have d3 : DataW.trod enc Try.prog W 0 (fun _ => true) true n 22 [c3] = xs[3]? := d3
  have d4 : DataW.trod enc Try.prog W 0 (fun _ => true) true n 33 (([c0, c1, c2, c3, c4, c5, c6].drop 4).take (Try.prog.cellsOf 33)) = xs[4]? := hd 4 _ rfl
  rw [k23] at d4
  have d4 : DataW.trod enc Try.prog W 0 (fun _ => true) true n 33 [c4] = xs[4]? := d4
  have d5 : DataW.trod enc Try.prog W 0 (fun _ => true) true n 3 (([c0, c1, c2, c3, c4, c5, c6].drop 5).take (Try.prog.cellsOf 3)) = xs[5]? := hd 5 _ rfl
  rw [k3] at d5
  have d5 : DataW.trod enc Try.prog W 0 (fun _ => true) true n 3 [c5] = xs[5]? := d5
  have d6 : DataW.trod enc Try.prog W 0 (fun _ => true) true n 4 (([c0, c1, c2, c3, c4, c5, c6].drop 6).take (Try.prog.cellsOf 4)) = xs[6]? := hd 6 _ rfl
  rw [k4] at d6
  have d6 : DataW.trod enc Try.prog W 0 (fun _ => true) true n 4 [c6] = xs[6]? := d6
  have hx7 : xs.length = 7 := hxl
  rw [List.getElem?_eq_getElem (by omega)] at d0 d1 d2 d3 d4 d5 d6
  obtain ⟨n0, e0, _, _⟩ := DataW.trod_int Try.underlying3 d0
  obtain ⟨n1, e1, _, _⟩ := DataW.trod_int Try.underlying3 d1
  obtain ⟨n2, e2, _, _⟩ := DataW.trod_int Try.underlying3 d2
  obtain ⟨A, m, cap, bs, e3, hrd, hw⟩ := open_secs (fun _ => rfl) d3
  obtain ⟨n4, e4, _, _⟩ := DataW.trod_int Try.underlying33 d4
  obtain ⟨n5, e5, _, _⟩ := DataW.trod_int Try.underlying3 d5
  obtain ⟨b6, e6, _⟩ := DataW.trod_bool Try.underlying4 d6
  simp only [List.cons.injEq, and_true] at e0 e1 e2 e3 e4 e5 e6
  subst e0 e1 e2 e3 e4 e5 e6
  refine ⟨⟨n0, n1, n2, m, bs, n4, n5, b6⟩, .slice A m cap, by rw [hca]; rfl, hrd, ?_⟩
  obtain ⟨_, A', cap', hv', hmc, _, hz0, h2⟩ := hrd
  simp only [Value.slice.injEq] at hv'
  obtain ⟨_, _, hcap⟩ := hv'
  have hmc : m ≤ cap' := hmc
  have hd' : d = .agg (xs.map (·.1)) := by simp only [Prod.mk.injEq] at hx; exact hx.1
  have hbig : reachBytes ≤ 140737488355328 := by decide
  have hn := hz
  rcases hw with ⟨hw, h0⟩ | ⟨els, sp, hw, hlen⟩
  · show m * 16 ≤ _; omega
  · have hmem : (els.length + sp.length) * Try.prog.bytesOf 24 ∈ d.weights Try.prog 35 := by
      rw [hd']
      have hu : (DataW.agg (xs.map (·.1))).weights Try.prog 35 = DataW.weightsEach Try.prog [3, 3, 3, 22, 33, 3, 4] (xs.map (·.1)) := by
        simp only [DataW.weights, Try.underlying35]; rfl
      rw [hu]
      refine DataW.weights_mem_each (j := 3) (t := 22) (d := .slice els sp) rfl ?_ _ ?_
      · rw [List.getElem?_map, List.getElem?_eq_getElem (by omega), ← hw]; rfl
      · simp [DataW.weights, Try.underlying22]
    have h16 : Try.prog.bytesOf 24 = 16 := by kernel_rfl
    have := hz _ hmem
    rw [h16, hlen, hcap] at this
    show m * 16 ≤ _
    omega
end Go.Proofs.Ytjpdjhmajjbgmaa.Wd
