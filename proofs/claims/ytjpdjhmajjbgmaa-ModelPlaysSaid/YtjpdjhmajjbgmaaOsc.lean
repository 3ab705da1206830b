/- A script of commands that came in. -/
import Derived.Test.YtjpdjhmajjbgmaaCin
import Derived.Test.YtjpdjhmajjbgmaaAwm
set_option linter.unusedVariables false
set_option linter.unusedSimpArgs false
namespace Go.Proofs.Ytjpdjhmajjbgmaa.Wd
open Go.RowKit Go.ChangeShapes Go.WideShapes Go.Deep
theorem open_cmd_cells {H : Type} {enc : TypeId × Value → H} {W : World} {fuel : Nat} {cs : List Value} {x : DataW H × List MemPlace} (hl7 : cs.length = 7) (h : DataW.trod enc Try.prog W 0 (fun _ => true) true fuel 35 cs = some x)
    (hz : ∀ n ∈ x.1.weights Try.prog 35, n ≤ reachBytes) :
    ∃ (c : Cmd) (dv : Value), cs = [.int .i64 c.kind, .int .i64 c.lba, .int .i64 c.count, dv, .int .u64 c.key, .int .i64 c.res, .bool c.keep] ∧ Secs W dv c ∧ c.n * 16 ≤ 140737488355328 := by
  obtain ⟨xs, n, _, hx, hcl, hxl, hd⟩ := DataW.trod_struct Try.underlying35 h
  obtain ⟨c0, c1, c2, c3, c4, c5, c6, hc7⟩ : ∃ c0 c1 c2 c3 c4 c5 c6, cs = [c0, c1, c2, c3, c4, c5, c6] := by
    match hm : cs, hl7 with
    | [c0, c1, c2, c3, c4, c5, c6], _ => exact ⟨c0, c1, c2, c3, c4, c5, c6, rfl⟩
  rw [hc7] at hd
  have k3 : Try.prog.cellsOf 3 = 1 := by kernel_rfl
  have k22 : Try.prog.cellsOf 22 = 1 := by kernel_rfl
  have k23 : Try.prog.cellsOf 33 = 1 := by kernel_rfl
  have k4 : Try.prog.cellsOf 4 = 1 := by kernel_rfl
  have d0 : DataW.trod enc Try.prog W 0 (fun _ => true) true n 3 (([c0, c1, c2, c3, c4, c5, c6].drop 0).take (Try.prog.cellsOf 3)) = xs[0]? := hd 0 _ rfl
  rw [k3] at d0
  have d0 : DataW.trod enc Try.prog W 0 (fun _ => true) true n 3 [c0] = xs[0]? := d0
  have d1 : DataW.trod enc Try.prog W 0 (fun _ => true) true n 3 (([c0, c1, c2, c3, c4, c5, c6].drop 1).take (Try.prog.cellsOf 3)) = xs[1]? := hd 1 _ rfl
  rw [k3] at d1
  have d1 : DataW.trod enc Try.prog W 0 (fun _ => true) true n 3 [c1] = xs[1]? := d1
  have d2 : DataW.trod enc Try.prog W 0 (fun _ => true) true n 3 (([c0, c1, c2, c3, c4, c5, c6].drop 2).take (Try.prog.cellsOf 3)) = xs[2]? := hd 2 _ rfl
  rw [k3] at d2
  have d2 : DataW.trod enc Try.prog W 0 (fun _ => true) true n 3 [c2] = xs[2]? := d2
  have d3 : DataW.trod enc Try.prog W 0 (fun _ => true) true n 22 (([c0, c1, c2, c3, c4, c5, c6].drop 3).take (Try.prog.cellsOf 22)) = xs[3]? := hd 3 _ rfl
  rw [k22] at d3
  have d3 : DataW.trod enc Try.prog W 0 (fun _ => true) true n 22 [c3] = xs[3]? := d3
  have d4 : DataW.trod enc Try.prog W 0 (fun _ => true) true n 33 (([c0, c1, c2, c3, c4, c5, c6].drop 4).take (Try.prog.cellsOf 33)) = xs[4]? := hd 4 _ rfl
  rw [k23] at d4
  have d4 : DataW.trod enc Try.prog W 0 (fun _ => true) true n 33 [c4] = xs[4]? := d4
  have d5 : DataW.trod enc Try.prog W 0 (fun _ => true) true n 3 (([c0, c1, c2, c3, c4, c5, c6].drop 5).take (Try.prog.cellsOf 3)) = xs[5]? := hd 5 _ rfl
  rw [k3] at d5
  have d5 : DataW.trod enc Try.prog W 0 (fun _ => true) true n 3 [c5] = xs[5]? := d5
  have d6 : DataW.trod enc Try.prog W 0 (fun _ => true) true n 4 (([c0, c1, c2, c3, c4, c5, c6].drop 6).take (Try.prog.cellsOf 4)) = xs[6]? := hd 6 _ rfl
  rw [k4] at d6
  have d6 : DataW.trod enc Try.prog W 0 (fun _ => true) true n 4 [c6] = xs[6]? := d6
  have hx7 : xs.length = 7 := hxl
  rw [List.getElem?_eq_getElem (by omega)] at d0 d1 d2 d3 d4 d5 d6
  obtain ⟨n0, e0, _, _⟩ := DataW.trod_int Try.underlying3 d0
  obtain ⟨n1, e1, _, _⟩ := DataW.trod_int Try.underlying3 d1
  obtain ⟨n2, e2, _, _⟩ := DataW.trod_int Try.underlying3 d2
  obtain ⟨A, m, cap, bs, e3, hrd, hw⟩ := open_secs (fun _ => rfl) d3
  obtain ⟨n4, e4, _, _⟩ := DataW.trod_int Try.underlying33 d4
  obtain ⟨n5, e5, _, _⟩ := DataW.trod_int Try.underlying3 d5
  obtain ⟨b6, e6, _⟩ := DataW.trod_bool Try.underlying4 d6
  simp only [List.cons.injEq, and_true] at e0 e1 e2 e3 e4 e5 e6
  subst e0 e1 e2 e3 e4 e5 e6
  refine ⟨⟨n0, n1, n2, m, bs, n4, n5, b6⟩, .slice A m cap, hc7, hrd, ?_⟩
  obtain ⟨_, A', cap', hv', hmc, _, hz0, h2⟩ := hrd
  simp only [Value.slice.injEq] at hv'
  obtain ⟨_, _, hcap⟩ := hv'
  have hmc : m ≤ cap' := hmc
  have hd' : x.1 = .agg (xs.map (·.1)) := by rw [hx]
  have hbig : reachBytes ≤ 140737488355328 := by decide
  have hn := hz
  rcases hw with ⟨hw, h0⟩ | ⟨els, sp, hw, hlen⟩
  · show m * 16 ≤ _; omega
  · have hmem : (els.length + sp.length) * Try.prog.bytesOf 24 ∈ x.1.weights Try.prog 35 := by
      rw [hd']
      have hu : (DataW.agg (xs.map (·.1))).weights Try.prog 35 = DataW.weightsEach Try.prog [3, 3, 3, 22, 33, 3, 4] (xs.map (·.1)) := by
        simp only [DataW.weights, Try.underlying35]; rfl
      rw [hu]
      refine DataW.weights_mem_each (j := 3) (t := 22) (d := .slice els sp) rfl ?_ _ ?_
      · rw [List.getElem?_map, List.getElem?_eq_getElem (by omega), ← hw]; rfl
      · simp [DataW.weights, Try.underlying22]
    have h16 : Try.prog.bytesOf 24 = 16 := by kernel_rfl
    have := hz _ hmem
    rw [h16, hlen, hcap] at this
    show m * 16 ≤ _
    omega
/-- A step of a script: a loss of power, or an initiator's command. -/
structure Opm where
  lose : Bool
  ini : Int
  c : Cmd
  dv : Value
/-- A script that came in. -/
def InScript (w : World) (A : Option Addr) (os : List Opm) : Prop :=
  os = [] ∨ ∃ b off, A = some ⟨b, off, none⟩ ∧ b < w.heap.size ∧ ∀ i o, os[i]? = some o →
    w.rangeAt b (off + i * 9) [.bool o.lose, .int .i64 o.ini, .int .i64 o.c.kind, .int .i64 o.c.lba, .int .i64 o.c.count, o.dv, .int .u64 o.c.key, .int .i64 o.c.res, .bool o.c.keep] ∧ Secs w o.dv o.c ∧ o.c.n * 16 ≤ 140737488355328
theorem weights_all {H : Type} (P : Program) (e : TypeId) : ∀ (l : List (DataW H)) (d : DataW H), d ∈ l → ∀ n ∈ d.weights P e, n ∈ DataW.weightsAll P e l
  | d0 :: l, d, hd, n, hn => by
    rw [DataW.weightsAll]
    rcases List.mem_cons.1 hd with rfl | hd
    · exact List.mem_append_left _ hn
    · exact List.mem_append_right _ (weights_all P e l d hd n hn)
theorem open_script {H : Type} {enc : TypeId × Value → H} {W : World} {base : Nat} {v : Value} {d : DataW H} {p : List MemPlace} (hv : Value.okWide Try.prog W .any base 43 v) (h : DataW.Trod enc Try.prog W 0 (fun _ => true) true 43 v d p)
    (hz : ∀ n ∈ d.weights Try.prog 43, n ≤ reachBytes) :
    ∃ (A : Option Addr) (cap : Nat) (os : List Opm), v = .slice A os.length cap ∧ os.length ≤ cap ∧ cap ≤ maxLen ∧ InScript W A os := by
  obtain ⟨a0, len0, cap0, rfl⟩ := okWide_slice Try.underlying43 hv
  obtain ⟨fuel, hf⟩ := h
  rcases open_slice Try.underlying43 hf with ⟨hc, _⟩ | ⟨a, len, cap, m, n, D, Pl, hc, _, hl, hm, hmm, hx, hi⟩
  · simp [Value.cells] at hc
    obtain ⟨rfl, rfl, rfl⟩ := hc
    exact ⟨none, 0, [], rfl, Nat.le_refl _, by unfold maxLen; omega, .inl rfl⟩
  · simp [Value.cells] at hc
    obtain ⟨rfl, rfl, rfl⟩ := hc
    have hmc : m = cap0 := by simpa using hmm
    have h51 : Try.prog.cellsOf 51 = 9 := by kernel_rfl
    have k4 : Try.prog.cellsOf 4 = 1 := by kernel_rfl
    have k3 : Try.prog.cellsOf 3 = 1 := by kernel_rfl
    have k35 : Try.prog.cellsOf 35 = 7 := by kernel_rfl
    have key : ∀ i, ∃ o : Opm, i < len0 → (∀ j u, ([.bool o.lose, .int .i64 o.ini, .int .i64 o.c.kind, .int .i64 o.c.lba, .int .i64 o.c.count, o.dv, .int .u64 o.c.key, .int .i64 o.c.res, .bool o.c.keep] : List Value)[j]? = some u → W.cell? (a.add (i * 9 + j)) = some u) ∧ Secs W o.dv o.c ∧ o.c.n * 16 ≤ 140737488355328 := by
      intro i
      by_cases hil : i < len0
      · obtain ⟨cs', hcs, ht⟩ := hi i (by omega)
        rw [h51] at hcs
        obtain ⟨_, hlen, hat⟩ := World.cells?_some hcs
        obtain ⟨xs, k, _, hx2, hcl, hxl, hd⟩ := DataW.trod_struct Try.underlying51 ht
        obtain ⟨c0, c1, cs7, hc9, hl7⟩ : ∃ c0 c1 cs7, cs' = c0 :: c1 :: cs7 ∧ cs7.length = 7 := by
          match hm : cs', hlen with
          | c0 :: c1 :: cs7, h9 => exact ⟨c0, c1, cs7, rfl, by simpa using h9⟩
        rw [hc9] at hd
        have d0 : DataW.trod enc Try.prog W 0 (fun _ => true) true k 4 (((c0 :: c1 :: cs7).drop 0).take (Try.prog.cellsOf 4)) = xs[0]? := hd 0 _ rfl
        rw [k4] at d0
        have d0 : DataW.trod enc Try.prog W 0 (fun _ => true) true k 4 [c0] = xs[0]? := d0
        have d1 : DataW.trod enc Try.prog W 0 (fun _ => true) true k 3 (((c0 :: c1 :: cs7).drop 1).take (Try.prog.cellsOf 3)) = xs[1]? := hd 1 _ rfl
        rw [k3] at d1
        have d1 : DataW.trod enc Try.prog W 0 (fun _ => true) true k 3 [c1] = xs[1]? := d1
        have d2 : DataW.trod enc Try.prog W 0 (fun _ => true) true k 35 (((c0 :: c1 :: cs7).drop 2).take (Try.prog.cellsOf 35)) = xs[2]? := hd 2 _ rfl
        rw [k35] at d2
        have d2 : DataW.trod enc Try.prog W 0 (fun _ => true) true k 35 (cs7.take 7) = xs[2]? := d2
        rw [List.take_of_length_le (by omega)] at d2
        have hx3 : xs.length = 3 := hxl
        rw [List.getElem?_eq_getElem (by omega)] at d0 d1 d2
        obtain ⟨b0, e0, _⟩ := DataW.trod_bool Try.underlying4 d0
        obtain ⟨n1, e1, _, _⟩ := DataW.trod_int Try.underlying3 d1
        simp only [List.cons.injEq, and_true] at e0 e1
        have hDi : D i = .agg (xs.map (·.1)) := by have := hx2; simp only [Prod.mk.injEq] at this; exact this.1
        have hzi : ∀ n ∈ (xs[2]'(by omega)).1.weights Try.prog 35, n ≤ reachBytes := fun n hn => hz n (by
          have hdd : d = .slice ((List.range len0).map D) ((List.range (m - len0)).map fun j => D (len0 + j)) := by simp only [Prod.mk.injEq] at hx; exact hx.1
          rw [hdd]
          have h1 : n ∈ (D i).weights Try.prog 51 := by
            rw [hDi]
            have hu : (DataW.agg (xs.map (·.1))).weights Try.prog 51 = DataW.weightsEach Try.prog [4, 3, 35] (xs.map (·.1)) := by
              simp only [DataW.weights, Try.underlying51]; rfl
            rw [hu]
            refine DataW.weights_mem_each (j := 2) (t := 35) (d := (xs[2]'(by omega)).1) rfl ?_ _ hn
            rw [List.getElem?_map, List.getElem?_eq_getElem (by omega)]; rfl
          have h2 := weights_all Try.prog 51 ((List.range len0).map D) (D i) (List.mem_map.2 ⟨i, List.mem_range.2 hil, rfl⟩) n h1
          simp only [DataW.weights, Try.underlying43]
          exact List.mem_cons_of_mem _ (List.mem_append_left _ h2))
        obtain ⟨c, dv, e7, hs, hb⟩ := open_cmd_cells hl7 d2 hzi
        refine ⟨⟨b0, n1, c, dv⟩, fun _ => ⟨fun j u hu => ?_, hs, hb⟩⟩
        have hj : j < 9 := (List.getElem?_eq_some_iff.1 hu).1
        rw [← Go.Deep.add_add, hat j hj, hc9, e0, e1, e7]
        exact hu
      · exact ⟨⟨false, 0, ⟨0, 0, 0, 0, [], 0, 0, false⟩, .slice none 0 0⟩, fun h => absurd h hil⟩
    obtain ⟨F, hF⟩ := Classical.skolem.1 key
    have hlen : ((List.range len0).map F).length = len0 := by simp
    refine ⟨some a, cap0, (List.range len0).map F, by rw [hlen], by rw [hlen]; exact hl, hm, ?_⟩
    rcases Nat.eq_zero_or_pos len0 with h0 | h0
    · subst h0; exact .inl rfl
    · have hc0 := (hF 0 h0).1 0 _ rfl
      rw [Nat.zero_mul, show a.add (0 + 0) = a from rfl] at hc0
      obtain ⟨hs, hb⟩ := addr_plain hc0
      obtain ⟨b, off, spot⟩ := a
      simp only at hs hb
      subst hs
      refine .inr ⟨b, off, rfl, hb, fun i o ho => ?_⟩
      have hil : i < len0 := by have := (List.getElem?_eq_some_iff.1 ho).1; simpa using this
      rw [List.getElem?_map, List.getElem?_range hil] at ho
      injection ho with ho
      subst ho
      obtain ⟨h1, h2, h3⟩ := hF i hil
      refine ⟨fun j u hu => ?_, h2, h3⟩
      have := h1 j u hu
      rw [addr_add] at this
      rw [Nat.add_assoc]
      exact this
end Go.Proofs.Ytjpdjhmajjbgmaa.Wd
