/- The document's Gate, walked. -/
import Derived.Test.YtjpdjhmajjbgmaaFin
import Derived.Test.YtjpdjhmajjbgmaaMdo
set_option linter.unusedVariables false
set_option linter.unusedSimpArgs false
namespace Go.Proofs.Ytjpdjhmajjbgmaa.Md
open Go Go.RowKit Res
open Wd (Cmd u8s balloc Rd)
theorem results_ctc {P : Program} {fn : Func} {p u r : Tmp} {ty tz : TypeId} (h : fn.results = #[.cell p ty, .tmp u, .cell r tz]) (tmps : Array Value) (w : World) (g k : Nat) (t s : TypeId) (cs ds : Array Value) (fr fs : Nat × Nat) (d e : TypeDesc)
    (hp : tmps.getD p undef = .pointer (some ⟨g, 0, none⟩)) (hg : w.heap[g]? = some (.cells cs t fr)) (hu : P.underlying ty = some d) (hd : (match d with | .struct _ | .array _ _ => true | _ => false) = true) (hi : (P.info? ty).map (·.size) = some cs.size)
    (hr : tmps.getD r undef = .pointer (some ⟨k, 0, none⟩)) (hk : w.heap[k]? = some (.cells ds s fs)) (hv : P.underlying tz = some e) (he : (match e with | .struct _ | .array _ _ => true | _ => false) = true) (hj : (P.info? tz).map (·.size) = some ds.size) :
    (results fn tmps).run P w = .ok (.tuple #[.agg cs, tmps.getD u undef, .agg ds]) w := by
  have hp' : tmps[p]?.getD undef = .pointer (some ⟨g, 0, none⟩) := by simpa using hp
  have hr' : tmps[r]?.getD undef = .pointer (some ⟨k, 0, none⟩) := by simpa using hr
  simp [results, h, hp', hr', asAddr, run_loadVar_row w g t ty cs fr d hg hu hd hi, run_loadVar_row w k s tz ds fs e hk hv he hj]
/-- What the document's Gate answers; the desk is the program's. -/
def rgS (d : Dk) (cap ini : Int) (c : Cmd) : Int × Int × Bool :=
  if ¬ isIn ini ∨ ¬ c.chk cap = 0 then (2, 5, true)
  else if c.kind = 2 then (if d.may ini false = true then (0, 0, false) else (3, 0, true))
  else if c.kind = 3 ∨ c.kind = 5 ∨ c.kind = 6 then (if d.may ini true = true then (0, 0, false) else (3, 0, true))
  else gateS d cap ini c
/-- The four boxes of a call. -/
structure Gx (w W : World) (d r : Dk) (c : Cmd) (dv : Value) (rp : Array Value) : Prop where
  dk : W.heap[w.heap.size]? = some (.cells d.cells 46 (0, 0))
  cm : W.heap[w.heap.size + 1]? = some (.cells (Cmd.arr c dv) 35 (0, 0))
  rp : W.heap[w.heap.size + 2]? = some (.cells rp 31 (0, 0))
  rd : W.heap[w.heap.size + 3]? = some (.cells r.cells 46 (0, 0))
  bel : Below w.heap.size w W
section
variable {w W W' : World} {d d' r : Dk} {c : Cmd} {dv : Value} {rp : Array Value}
theorem Gx.start (w : World) (d : Dk) (c : Cmd) (dv : Value) : Gx w ((((w.alloc (.cells d.cells 46)).alloc (.cells (Cmd.arr c dv) 35)).alloc (.cells (rep 0 0) 31)).alloc (.cells Dk.new.cells 46)) d Dk.new c dv (rep 0 0) := by
  have hb : Below w.heap.size w ((((w.alloc (.cells d.cells 46)).alloc (.cells (Cmd.arr c dv) 35)).alloc (.cells (rep 0 0) 31)).alloc (.cells Dk.new.cells 46)) := (((((Below.refl _ _).alloc (Nat.le_refl _) _).alloc (by simp) _).alloc (by simp <;> omega) _).alloc (by simp <;> omega) _)
  have e1 : w.heap.size + 1 = (w.alloc (.cells d.cells 46)).heap.size := by simp
  have e2 : w.heap.size + 2 = ((w.alloc (.cells d.cells 46)).alloc (.cells (Cmd.arr c dv) 35)).heap.size := by simp
  have e3 : w.heap.size + 3 = (((w.alloc (.cells d.cells 46)).alloc (.cells (Cmd.arr c dv) 35)).alloc (.cells (rep 0 0) 31)).heap.size := by simp
  refine ⟨?_, ?_, ?_, ?_, hb⟩
  · exact (Below.heap_alloc _ _ _ (by simp <;> omega)).trans ((Below.heap_alloc _ _ _ (by simp <;> omega)).trans ((Below.heap_alloc _ _ _ (by simp)).trans (heap_alloc_new w _)))
  · rw [e1]; exact (Below.heap_alloc _ _ _ (by simp <;> omega)).trans ((Below.heap_alloc _ _ _ (by simp)).trans (heap_alloc_new _ _))
  · rw [e2]; exact (Below.heap_alloc _ _ _ (by simp)).trans (heap_alloc_new _ _)
  · rw [e3]; exact heap_alloc_new _ _
theorem Gx.below (h : Gx w W d r c dv rp) (hb : Below W.heap.size W W') : Gx w W' d r c dv rp :=
  ⟨(hb.block _ (lt_of_heap h.dk)).trans h.dk, (hb.block _ (lt_of_heap h.cm)).trans h.cm, (hb.block _ (lt_of_heap h.rp)).trans h.rp, (hb.block _ (lt_of_heap h.rd)).trans h.rd, h.bel.trans (hb.mono h.bel.size)⟩
theorem Gx.setDk (h : Gx w W d r c dv rp) (d' : Dk) : Gx w (W.setRow w.heap.size d'.cells) d' r c dv rp := by
  have ho := Only.setRow (w := W) (g := w.heap.size) d'.cells
  exact ⟨Wd.heap_setRow h.dk _, (ho.block _ (lt_of_heap h.cm) (by simp)).trans h.cm, (ho.block _ (lt_of_heap h.rp) (by simp)).trans h.rp, (ho.block _ (lt_of_heap h.rd) (by simp)).trans h.rd, Only.below h.bel ho h.bel.size (by simp)⟩
theorem Gx.setRp (h : Gx w W d r c dv rp) (row : Array Value) : Gx w (W.setRow (w.heap.size + 2) row) d r c dv row := by
  have ho := Only.setRow (w := W) (g := w.heap.size + 2) row
  exact ⟨(ho.block _ (lt_of_heap h.dk) (by simp)).trans h.dk, (ho.block _ (lt_of_heap h.cm) (by simp)).trans h.cm, Wd.heap_setRow h.rp _, (ho.block _ (lt_of_heap h.rd) (by simp)).trans h.rd, Only.below h.bel ho h.bel.size (by simp)⟩
theorem Gx.setRd (h : Gx w W d r c dv rp) (r' : Dk) : Gx w (W.setRow (w.heap.size + 3) r'.cells) d r' c dv rp := by
  have ho := Only.setRow (w := W) (g := w.heap.size + 3) r'.cells
  exact ⟨(ho.block _ (lt_of_heap h.dk) (by simp)).trans h.dk, (ho.block _ (lt_of_heap h.cm) (by simp)).trans h.cm, (ho.block _ (lt_of_heap h.rp) (by simp)).trans h.rp, Wd.heap_setRow h.rd _, Only.below h.bel ho h.bel.size (by simp)⟩
theorem Gx.c0 (h : Gx w W d r c dv rp) : W.cell? ⟨w.heap.size + 1, 0, none⟩ = some (.int .i64 c.kind) := by rw [cell_of_heap h.cm]; rfl
theorem Gx.c4 (h : Gx w W d r c dv rp) : W.cell? ⟨w.heap.size + 1, 4, none⟩ = some (.int .u64 c.key) := by rw [cell_of_heap h.cm]; rfl
theorem Gx.c5 (h : Gx w W d r c dv rp) : W.cell? ⟨w.heap.size + 1, 5, none⟩ = some (.int .i64 c.res) := by rw [cell_of_heap h.cm]; rfl
theorem Gx.c6 (h : Gx w W d r c dv rp) : W.cell? ⟨w.heap.size + 1, 6, none⟩ = some (.bool c.keep) := by rw [cell_of_heap h.cm]; rfl
end
/-- What the document's Gate answers, and the desk behind. -/
def RGPost (w : World) (s : Int × Int × Bool) (d : Dk) (e : Ending) (w' : World) : Prop :=
  e = .returned (.tuple #[.agg (rep s.1 s.2.1), .bool s.2.2, .agg d.cells]) ∧ Below w.heap.size w w'
theorem wpList_load_row_g {P : Program} {ops : Array Oper} {rest : List Oper} {op : Oper} {a : Act} {w : World} {Q : Exit → Act → World → Prop} (hw : Region.wanted op (yielded ops a.tmps) = true) (ty : TypeId) (x : Operand) (ho : op.op = .load ty x)
    (g : Nat) (hx : a.eval x = .pointer (some ⟨g, 0, none⟩)) (t : TypeId) (cs : Array Value) (fr : Nat × Nat) (d : TypeDesc) (hg : w.heap[g]? = some (.cells cs t fr))
    (hu : P.underlying ty = some d) (hd : (match d with | .struct _ | .array _ _ => true | _ => false) = true) (hi : (P.info? ty).map (·.size) = some cs.size)
    (h : wpList P ops Q rest (a.put op.dst (.agg cs)) w) : wpList P ops Q (op :: rest) a w :=
  wpList_step fun _ hK => by
    rw [if_pos hw]
    unfold Oper.wp execOp
    simp only [ho, hx, Instr.loadAt, Instr.sureAddr, Sem.run_bind, Sem.run_pure, Result.andThen_ok, run_loadVar_row w g t ty cs fr d hg hu hd hi]
    exact hK _ _ h
set_option maxRecDepth 100000 in
set_option maxHeartbeats 4000000 in
theorem rgate_bad (d : Dk) (cap ini : Int) (c : Cmd) (dv : Value) (w : World) (hf : d.fine) (hs : Wd.Secs w dv c) (hc : (Lit.int .i64 cap).wf = true) (hbad : ¬ isIn ini ∨ ¬ c.chk cap = 0) :
    Calls Try.prog 24 #[.agg d.cells, .int .i64 cap, .int .i64 ini, c.val dv] w (RGPost w (2, 5, true) d) := by
  obtain ⟨fs, hu⟩ := u41
  have HU := Lib.hid hu
  have hX := Gx.start w d c dv
  have CK := Lib.hid (fun W hW => Wd.rcheck_any c dv cap W (hs.below hW) hc)
  have HF := Lib.hid hf
  obtain ⟨A, n0, cp, rfl⟩ : ∃ A n0 cp, dv = .slice A n0 cp := by
    obtain ⟨_, A, cp, h1, _⟩ := hs; exact ⟨A, _, cp, h1⟩
  have HX := Lib.hid hX
  clear hX hu hf hs
  have hcv : c.val (.slice A n0 cp) = .agg #[.int .i64 c.kind, .int .i64 c.lba, .int .i64 c.count, .slice A n0 cp, .int .u64 c.key, .int .i64 c.res, .bool c.keep] := rfl
  rw [hcv]
  clear hcv
  have hxc : isIn ini → ¬ c.chk cap = 0 := fun h => hbad.elim (fun h2 => absurd h h2) id
  generalize hch : c.chk cap = X at *
  clear hbad hch
  rcases ini_cases ini with ⟨i1, i2⟩ | ⟨i1, i2, i3⟩ | ⟨i1, i2, i3⟩
  · clear CK i2 hxc
    go_enter Try.func24, Try.ntmps24
    go_upto_region 1 with (fail)
    change Code.wp _ _ _ _ ((((w.alloc (.cells d.cells 46)).alloc (.cells (Cmd.arr c (.slice A n0 cp)) 35)).alloc (.cells (rep 0 0) 31)).alloc (.cells Dk.new.cells 46))
    generalize ((((w.alloc (.cells d.cells 46)).alloc (.cells (Cmd.arr c (.slice A n0 cp)) 35)).alloc (.cells (rep 0 0) 31)).alloc (.cells Dk.new.cells 46)) = w1 at *
    go_upto_region 2 with (fail)
    refine wp_region_held_drew (S := fun W => W.heap[w.heap.size]? = some (.cells (d).cells 46 (0, 0))) (by kernel_rfl) HX.out.dk (fun hS => ?_)
    have HG1 := Lib.hid (HX.out.below (Below.refl _ _).drew)
    generalize World.drew _ = wr0 at *
    refine wpAnyH_take (i := 0) (v := ?_) rfl (by kernel_rfl) (by kernel_rfl) (by kernel_rfl) (fun _ _ _ h => h) (Or.inl ⟨by rfl, ?_⟩) hS ?_
    rotate_left
    · intro w' hSw; go_simp; try rfl
    try simp only [Act.put, List.getElem_toArray, List.getElem_cons_succ, List.getElem_cons_zero, List.setIfInBounds_toArray, List.set_cons_zero, List.set_cons_succ]
    refine wpAnyH_take (i := 1) (v := .agg (d).cells) rfl (by kernel_rfl) (by kernel_rfl) (by kernel_rfl) (fun _ _ _ h => h) (Or.inl ⟨by rfl, fun w' hSw => ?_⟩) hS ?_
    · exact exec_load_row 46 _ rfl w.heap.size rfl 46 _ (0, 0) _ hSw HU.out rfl (info41 HF.out.len)
    try simp only [Act.put, List.getElem_toArray, List.getElem_cons_succ, List.getElem_cons_zero, List.setIfInBounds_toArray, List.set_cons_zero, List.set_cons_succ]
    refine wpAnyH_ready (rs := [2]) (by kernel_rfl) (by simp) ?_
    refine AllReadyH.cons rfl (fun K hK => ?_) AllReadyH.nil
    rw [if_pos (by rfl)]
    refine wp_store_row 31 _ _ rfl (w.heap.size + 2) (rep 2 5) rfl rfl 31 _ HG1.out.rp (by kernel_rfl) rfl (rep_one _ _) ?_
    have HG2 := Lib.hid (HG1.out.setRp (rep 2 5))
    refine hK.out _ _ HG2.out.dk (fun hS => ?_)
    clear hK K HG1
    try simp only [Act.put, List.getElem_toArray, List.getElem_cons_succ, List.getElem_cons_zero, List.setIfInBounds_toArray, List.set_cons_zero, List.set_cons_succ]
    generalize World.setRow _ _ _ = wr1 at *
    refine wpAnyH_take (i := 3) (v := ?_) rfl (by kernel_rfl) (by kernel_rfl) (by kernel_rfl) (fun _ _ _ h => h) (Or.inl ⟨by rfl, ?_⟩) hS ?_
    rotate_left
    · intro w' hSw; go_simp; try rfl
    try simp only [Act.put, List.getElem_toArray, List.getElem_cons_succ, List.getElem_cons_zero, List.setIfInBounds_toArray, List.set_cons_zero, List.set_cons_succ]
    refine wpAnyH_ready (rs := [4]) (by kernel_rfl) (by simp) ?_
    refine AllReadyH.cons rfl (fun K hK => ?_) AllReadyH.nil
    rw [if_pos (by rfl)]
    refine wp_store_row 46 _ _ rfl (w.heap.size + 3) (d).cells rfl rfl 46 _ HG2.out.rd (info41 HF.out.len) (by rw [cells_size HF.out.len]; rfl) (one41 _) ?_
    have HG3 := Lib.hid (HG2.out.setRd (d))
    refine hK.out _ _ HG3.out.dk (fun hS => ?_)
    clear hK K HG2
    try simp only [Act.put, List.getElem_toArray, List.getElem_cons_succ, List.getElem_cons_zero, List.setIfInBounds_toArray, List.set_cons_zero, List.set_cons_succ]
    refine wpAnyH_done (by kernel_rfl) ?_ _
    go_wp2_with (fail)
    refine bodyPost_ret (results_ctc rfl _ _ (w.heap.size + 2) (w.heap.size + 3) 31 46 _ _ (0, 0) (0, 0) _ _ rfl HG3.out.rp Try.underlying31 rfl (by kernel_rfl) rfl HG3.out.rd HU.out rfl (info41 HF.out.len)) rfl ?_
    exact ⟨rfl, HG3.out.bel⟩
  · clear CK i3 hxc
    go_enter Try.func24, Try.ntmps24
    go_upto_region 1 with (fail)
    change Code.wp _ _ _ _ ((((w.alloc (.cells d.cells 46)).alloc (.cells (Cmd.arr c (.slice A n0 cp)) 35)).alloc (.cells (rep 0 0) 31)).alloc (.cells Dk.new.cells 46))
    generalize ((((w.alloc (.cells d.cells 46)).alloc (.cells (Cmd.arr c (.slice A n0 cp)) 35)).alloc (.cells (rep 0 0) 31)).alloc (.cells Dk.new.cells 46)) = w1 at *
    go_upto_region 2 with (fail)
    refine wp_region_held_drew (S := fun W => W.heap[w.heap.size]? = some (.cells (d).cells 46 (0, 0))) (by kernel_rfl) HX.out.dk (fun hS => ?_)
    have HG1 := Lib.hid (HX.out.below (Below.refl _ _).drew)
    generalize World.drew _ = wr0 at *
    refine wpAnyH_take (i := 0) (v := ?_) rfl (by kernel_rfl) (by kernel_rfl) (by kernel_rfl) (fun _ _ _ h => h) (Or.inl ⟨by rfl, ?_⟩) hS ?_
    rotate_left
    · intro w' hSw; go_simp; try rfl
    try simp only [Act.put, List.getElem_toArray, List.getElem_cons_succ, List.getElem_cons_zero, List.setIfInBounds_toArray, List.set_cons_zero, List.set_cons_succ]
    refine wpAnyH_take (i := 1) (v := .agg (d).cells) rfl (by kernel_rfl) (by kernel_rfl) (by kernel_rfl) (fun _ _ _ h => h) (Or.inl ⟨by rfl, fun w' hSw => ?_⟩) hS ?_
    · exact exec_load_row 46 _ rfl w.heap.size rfl 46 _ (0, 0) _ hSw HU.out rfl (info41 HF.out.len)
    try simp only [Act.put, List.getElem_toArray, List.getElem_cons_succ, List.getElem_cons_zero, List.setIfInBounds_toArray, List.set_cons_zero, List.set_cons_succ]
    refine wpAnyH_ready (rs := [2]) (by kernel_rfl) (by simp) ?_
    refine AllReadyH.cons rfl (fun K hK => ?_) AllReadyH.nil
    rw [if_pos (by rfl)]
    refine wp_store_row 31 _ _ rfl (w.heap.size + 2) (rep 2 5) rfl rfl 31 _ HG1.out.rp (by kernel_rfl) rfl (rep_one _ _) ?_
    have HG2 := Lib.hid (HG1.out.setRp (rep 2 5))
    refine hK.out _ _ HG2.out.dk (fun hS => ?_)
    clear hK K HG1
    try simp only [Act.put, List.getElem_toArray, List.getElem_cons_succ, List.getElem_cons_zero, List.setIfInBounds_toArray, List.set_cons_zero, List.set_cons_succ]
    generalize World.setRow _ _ _ = wr1 at *
    refine wpAnyH_take (i := 3) (v := ?_) rfl (by kernel_rfl) (by kernel_rfl) (by kernel_rfl) (fun _ _ _ h => h) (Or.inl ⟨by rfl, ?_⟩) hS ?_
    rotate_left
    · intro w' hSw; go_simp; try rfl
    try simp only [Act.put, List.getElem_toArray, List.getElem_cons_succ, List.getElem_cons_zero, List.setIfInBounds_toArray, List.set_cons_zero, List.set_cons_succ]
    refine wpAnyH_ready (rs := [4]) (by kernel_rfl) (by simp) ?_
    refine AllReadyH.cons rfl (fun K hK => ?_) AllReadyH.nil
    rw [if_pos (by rfl)]
    refine wp_store_row 46 _ _ rfl (w.heap.size + 3) (d).cells rfl rfl 46 _ HG2.out.rd (info41 HF.out.len) (by rw [cells_size HF.out.len]; rfl) (one41 _) ?_
    have HG3 := Lib.hid (HG2.out.setRd (d))
    refine hK.out _ _ HG3.out.dk (fun hS => ?_)
    clear hK K HG2
    try simp only [Act.put, List.getElem_toArray, List.getElem_cons_succ, List.getElem_cons_zero, List.setIfInBounds_toArray, List.set_cons_zero, List.set_cons_succ]
    refine wpAnyH_done (by kernel_rfl) ?_ _
    go_wp2_with (fail)
    refine bodyPost_ret (results_ctc rfl _ _ (w.heap.size + 2) (w.heap.size + 3) 31 46 _ _ (0, 0) (0, 0) _ _ rfl HG3.out.rp Try.underlying31 rfl (by kernel_rfl) rfl HG3.out.rd HU.out rfl (info41 HF.out.len)) rfl ?_
    exact ⟨rfl, HG3.out.bel⟩
  · have hx := hxc i3
    have hxb : ((X : Int) == 0) = false := bF hx
    have hxn : ((X : Int) != 0) = true := nT hx
    clear i3 hxc hx
    go_enter Try.func24, Try.ntmps24
    go_upto_region 1 with (fail)
    change Code.wp _ _ _ _ ((((w.alloc (.cells d.cells 46)).alloc (.cells (Cmd.arr c (.slice A n0 cp)) 35)).alloc (.cells (rep 0 0) 31)).alloc (.cells Dk.new.cells 46))
    generalize ((((w.alloc (.cells d.cells 46)).alloc (.cells (Cmd.arr c (.slice A n0 cp)) 35)).alloc (.cells (rep 0 0) 31)).alloc (.cells Dk.new.cells 46)) = w1 at *
    have hX1 := HX.out
    have hk0 := HX.out.c0
    go_wp2_with (first
      | (refine wpList_load_row_g rfl 35 _ rfl (w.heap.size + 1) rfl 35 _ (0, 0) _ HX.out.cm Try.underlying35 rfl (by kernel_rfl) ?_))
    refine (CK.out _ HX.out.bel).mono ?_
    rintro e w2 ⟨rfl, hb2⟩
    have HX2 := Lib.hid (HX.out.below hb2)
    clear hb2 HX hX1 hk0
    go_upto_region 2 with (fail)
    refine wp_region_held_drew (S := fun W => W.heap[w.heap.size]? = some (.cells (d).cells 46 (0, 0))) (by kernel_rfl) HX2.out.dk (fun hS => ?_)
    have HG1 := Lib.hid (HX2.out.below (Below.refl _ _).drew)
    generalize World.drew _ = wr0 at *
    refine wpAnyH_take (i := 0) (v := ?_) rfl (by kernel_rfl) (by kernel_rfl) (by kernel_rfl) (fun _ _ _ h => h) (Or.inl ⟨by rfl, ?_⟩) hS ?_
    rotate_left
    · intro w' hSw; go_simp; try rfl
    try simp only [Act.put, List.getElem_toArray, List.getElem_cons_succ, List.getElem_cons_zero, List.setIfInBounds_toArray, List.set_cons_zero, List.set_cons_succ]
    refine wpAnyH_take (i := 1) (v := .agg (d).cells) rfl (by kernel_rfl) (by kernel_rfl) (by kernel_rfl) (fun _ _ _ h => h) (Or.inl ⟨by rfl, fun w' hSw => ?_⟩) hS ?_
    · exact exec_load_row 46 _ rfl w.heap.size rfl 46 _ (0, 0) _ hSw HU.out rfl (info41 HF.out.len)
    try simp only [Act.put, List.getElem_toArray, List.getElem_cons_succ, List.getElem_cons_zero, List.setIfInBounds_toArray, List.set_cons_zero, List.set_cons_succ]
    refine wpAnyH_ready (rs := [2]) (by kernel_rfl) (by simp) ?_
    refine AllReadyH.cons rfl (fun K hK => ?_) AllReadyH.nil
    rw [if_pos (by rfl)]
    refine wp_store_row 31 _ _ rfl (w.heap.size + 2) (rep 2 5) rfl rfl 31 _ HG1.out.rp (by kernel_rfl) rfl (rep_one _ _) ?_
    have HG2 := Lib.hid (HG1.out.setRp (rep 2 5))
    refine hK.out _ _ HG2.out.dk (fun hS => ?_)
    clear hK K HG1
    try simp only [Act.put, List.getElem_toArray, List.getElem_cons_succ, List.getElem_cons_zero, List.setIfInBounds_toArray, List.set_cons_zero, List.set_cons_succ]
    generalize World.setRow _ _ _ = wr1 at *
    refine wpAnyH_take (i := 3) (v := ?_) rfl (by kernel_rfl) (by kernel_rfl) (by kernel_rfl) (fun _ _ _ h => h) (Or.inl ⟨by rfl, ?_⟩) hS ?_
    rotate_left
    · intro w' hSw; go_simp; try rfl
    try simp only [Act.put, List.getElem_toArray, List.getElem_cons_succ, List.getElem_cons_zero, List.setIfInBounds_toArray, List.set_cons_zero, List.set_cons_succ]
    refine wpAnyH_ready (rs := [4]) (by kernel_rfl) (by simp) ?_
    refine AllReadyH.cons rfl (fun K hK => ?_) AllReadyH.nil
    rw [if_pos (by rfl)]
    refine wp_store_row 46 _ _ rfl (w.heap.size + 3) (d).cells rfl rfl 46 _ HG2.out.rd (info41 HF.out.len) (by rw [cells_size HF.out.len]; rfl) (one41 _) ?_
    have HG3 := Lib.hid (HG2.out.setRd (d))
    refine hK.out _ _ HG3.out.dk (fun hS => ?_)
    clear hK K HG2
    try simp only [Act.put, List.getElem_toArray, List.getElem_cons_succ, List.getElem_cons_zero, List.setIfInBounds_toArray, List.set_cons_zero, List.set_cons_succ]
    refine wpAnyH_done (by kernel_rfl) ?_ _
    go_wp2_with (fail)
    refine bodyPost_ret (results_ctc rfl _ _ (w.heap.size + 2) (w.heap.size + 3) 31 46 _ _ (0, 0) (0, 0) _ _ rfl HG3.out.rp Try.underlying31 rfl (by kernel_rfl) rfl HG3.out.rd HU.out rfl (info41 HF.out.len)) rfl ?_
    exact ⟨rfl, HG3.out.bel⟩
set_option maxRecDepth 100000 in
set_option maxHeartbeats 4000000 in
theorem rgate_2y (d : Dk) (cap ini : Int) (c : Cmd) (dv : Value) (w : World) (hf : d.fine) (hs : Wd.Secs w dv c) (hc : (Lit.int .i64 cap).wf = true) (hini : isIn ini) (hchk : c.chk cap = 0) (hk : c.kind = 2) (hm : d.may ini false = true) :
    Calls Try.prog 24 #[.agg d.cells, .int .i64 cap, .int .i64 ini, c.val dv] w (RGPost w (0, 0, false) d) := by
  obtain ⟨fs, hu⟩ := u41
  have HU := Lib.hid hu
  have hX := Gx.start w d c dv
  have CK := Lib.hid (fun W hW => Wd.rcheck_any c dv cap W (hs.below hW) hc)
  have HF := Lib.hid hf
  obtain ⟨A, n0, cp, rfl⟩ : ∃ A n0 cp, dv = .slice A n0 cp := by
    obtain ⟨_, A, cp, h1, _⟩ := hs; exact ⟨A, _, cp, h1⟩
  have HX := Lib.hid hX
  clear hX hu hf hs
  have hcv : c.val (.slice A n0 cp) = .agg #[.int .i64 c.kind, .int .i64 c.lba, .int .i64 c.count, .slice A n0 cp, .int .u64 c.key, .int .i64 c.res, .bool c.keep] := rfl
  rw [hcv]
  clear hcv
  have i0 : ¬ ini < 0 := fun h => by have := hini.1; omega
  have i1 : ¬ 16 ≤ ini := fun h => by have := hini.2; omega
  have hxb : ((c.chk cap : Int) == 0) = true := bT hchk
  have hxn : ((c.chk cap : Int) != 0) = false := nF hchk
  generalize c.chk cap = X at *
  clear hchk hini
  have m2 : ((c.kind : Int) == 2) = true := bT hk
  have m3 : ((c.kind : Int) == 3) = false := bF (by omega)
  have m5 : ((c.kind : Int) == 5) = false := bF (by omega)
  have m6 : ((c.kind : Int) == 6) = false := bF (by omega)
  have m7 : ((c.kind : Int) == 7) = false := bF (by omega)
  have m8 : ((c.kind : Int) == 8) = false := bF (by omega)
  have m9 : ((c.kind : Int) == 9) = false := bF (by omega)
  have m10 : ((c.kind : Int) == 10) = false := bF (by omega)
  have m11 : ((c.kind : Int) == 11) = false := bF (by omega)
  clear hk
  go_enter Try.func24, Try.ntmps24
  go_upto_region 1 with (fail)
  change Code.wp _ _ _ _ ((((w.alloc (.cells d.cells 46)).alloc (.cells (Cmd.arr c (.slice A n0 cp)) 35)).alloc (.cells (rep 0 0) 31)).alloc (.cells Dk.new.cells 46))
  generalize ((((w.alloc (.cells d.cells 46)).alloc (.cells (Cmd.arr c (.slice A n0 cp)) 35)).alloc (.cells (rep 0 0) 31)).alloc (.cells Dk.new.cells 46)) = w1 at *
  have hX1 := HX.out
  have hk0 := HX.out.c0
  go_wp2_with (first
    | (refine wpList_load_row_g rfl 35 _ rfl (w.heap.size + 1) rfl 35 _ (0, 0) _ HX.out.cm Try.underlying35 rfl (by kernel_rfl) ?_))
  refine (CK.out _ HX.out.bel).mono ?_
  rintro e w2 ⟨rfl, hb2⟩
  have HX2 := Lib.hid (HX.out.below hb2)
  clear hb2 HX hX1 hk0
  have ck0 := HX2.out.c0
  have ck4 := HX2.out.c4
  have ck5 := HX2.out.c5
  have ck6 := HX2.out.c6
  have MY := Lib.hid (fun W => rMay_any d ini false W HF.out.len)
  rw [hm] at MY
  go_wp2_with (first
    | (refine wpList_load_row_g rfl 46 _ rfl w.heap.size rfl 46 _ (0, 0) _ HX2.out.dk HU.out rfl (info41 HF.out.len) ?_))
  refine (MY.out _).mono ?_
  rintro e w3 ⟨rfl, hb3⟩
  have HX3 := Lib.hid (HX2.out.below hb3)
  clear hb3 MY HX2 ck0 ck4 ck5 ck6 hm
  go_upto_region 7 with (fail)
  refine wp_region_held_drew (S := fun W => W.heap[w.heap.size]? = some (.cells (d).cells 46 (0, 0))) (by kernel_rfl) HX3.out.dk (fun hS => ?_)
  have HG1 := Lib.hid (HX3.out.below (Below.refl _ _).drew)
  generalize World.drew _ = wr0 at *
  refine wpAnyH_take (i := 0) (v := ?_) rfl (by kernel_rfl) (by kernel_rfl) (by kernel_rfl) (fun _ _ _ h => h) (Or.inl ⟨by rfl, ?_⟩) hS ?_
  rotate_left
  · intro w' hSw; go_simp; try rfl
  try simp only [Act.put, List.getElem_toArray, List.getElem_cons_succ, List.getElem_cons_zero, List.setIfInBounds_toArray, List.set_cons_zero, List.set_cons_succ]
  refine wpAnyH_take (i := 1) (v := .agg (d).cells) rfl (by kernel_rfl) (by kernel_rfl) (by kernel_rfl) (fun _ _ _ h => h) (Or.inl ⟨by rfl, fun w' hSw => ?_⟩) hS ?_
  · exact exec_load_row 46 _ rfl w.heap.size rfl 46 _ (0, 0) _ hSw HU.out rfl (info41 HF.out.len)
  try simp only [Act.put, List.getElem_toArray, List.getElem_cons_succ, List.getElem_cons_zero, List.setIfInBounds_toArray, List.set_cons_zero, List.set_cons_succ]
  refine wpAnyH_ready (rs := [2]) (by kernel_rfl) (by simp) ?_
  refine AllReadyH.cons rfl (fun K hK => ?_) AllReadyH.nil
  rw [if_pos (by rfl)]
  refine wp_store_row 31 _ _ rfl (w.heap.size + 2) (rep 0 0) rfl rfl 31 _ HG1.out.rp (by kernel_rfl) rfl (rep_one _ _) ?_
  have HG2 := Lib.hid (HG1.out.setRp (rep 0 0))
  refine hK.out _ _ HG2.out.dk (fun hS => ?_)
  clear hK K HG1
  try simp only [Act.put, List.getElem_toArray, List.getElem_cons_succ, List.getElem_cons_zero, List.setIfInBounds_toArray, List.set_cons_zero, List.set_cons_succ]
  generalize World.setRow _ _ _ = wr1 at *
  refine wpAnyH_take (i := 3) (v := ?_) rfl (by kernel_rfl) (by kernel_rfl) (by kernel_rfl) (fun _ _ _ h => h) (Or.inl ⟨by rfl, ?_⟩) hS ?_
  rotate_left
  · intro w' hSw; go_simp; try rfl
  try simp only [Act.put, List.getElem_toArray, List.getElem_cons_succ, List.getElem_cons_zero, List.setIfInBounds_toArray, List.set_cons_zero, List.set_cons_succ]
  refine wpAnyH_ready (rs := [4]) (by kernel_rfl) (by simp) ?_
  refine AllReadyH.cons rfl (fun K hK => ?_) AllReadyH.nil
  rw [if_pos (by rfl)]
  refine wp_store_row 46 _ _ rfl (w.heap.size + 3) (d).cells rfl rfl 46 _ HG2.out.rd (info41 HF.out.len) (by rw [cells_size HF.out.len]; rfl) (one41 _) ?_
  have HG3 := Lib.hid (HG2.out.setRd (d))
  refine hK.out _ _ HG3.out.dk (fun hS => ?_)
  clear hK K HG2
  try simp only [Act.put, List.getElem_toArray, List.getElem_cons_succ, List.getElem_cons_zero, List.setIfInBounds_toArray, List.set_cons_zero, List.set_cons_succ]
  refine wpAnyH_done (by kernel_rfl) ?_ _
  go_wp2_with (fail)
  refine bodyPost_ret (results_ctc rfl _ _ (w.heap.size + 2) (w.heap.size + 3) 31 46 _ _ (0, 0) (0, 0) _ _ rfl HG3.out.rp Try.underlying31 rfl (by kernel_rfl) rfl HG3.out.rd HU.out rfl (info41 HF.out.len)) rfl ?_
  exact ⟨rfl, HG3.out.bel⟩
set_option maxRecDepth 100000 in
set_option maxHeartbeats 4000000 in
theorem rgate_2n (d : Dk) (cap ini : Int) (c : Cmd) (dv : Value) (w : World) (hf : d.fine) (hs : Wd.Secs w dv c) (hc : (Lit.int .i64 cap).wf = true) (hini : isIn ini) (hchk : c.chk cap = 0) (hk : c.kind = 2) (hm : d.may ini false = false) :
    Calls Try.prog 24 #[.agg d.cells, .int .i64 cap, .int .i64 ini, c.val dv] w (RGPost w (3, 0, true) d) := by
  obtain ⟨fs, hu⟩ := u41
  have HU := Lib.hid hu
  have hX := Gx.start w d c dv
  have CK := Lib.hid (fun W hW => Wd.rcheck_any c dv cap W (hs.below hW) hc)
  have HF := Lib.hid hf
  obtain ⟨A, n0, cp, rfl⟩ : ∃ A n0 cp, dv = .slice A n0 cp := by
    obtain ⟨_, A, cp, h1, _⟩ := hs; exact ⟨A, _, cp, h1⟩
  have HX := Lib.hid hX
  clear hX hu hf hs
  have hcv : c.val (.slice A n0 cp) = .agg #[.int .i64 c.kind, .int .i64 c.lba, .int .i64 c.count, .slice A n0 cp, .int .u64 c.key, .int .i64 c.res, .bool c.keep] := rfl
  rw [hcv]
  clear hcv
  have i0 : ¬ ini < 0 := fun h => by have := hini.1; omega
  have i1 : ¬ 16 ≤ ini := fun h => by have := hini.2; omega
  have hxb : ((c.chk cap : Int) == 0) = true := bT hchk
  have hxn : ((c.chk cap : Int) != 0) = false := nF hchk
  generalize c.chk cap = X at *
  clear hchk hini
  have m2 : ((c.kind : Int) == 2) = true := bT hk
  have m3 : ((c.kind : Int) == 3) = false := bF (by omega)
  have m5 : ((c.kind : Int) == 5) = false := bF (by omega)
  have m6 : ((c.kind : Int) == 6) = false := bF (by omega)
  have m7 : ((c.kind : Int) == 7) = false := bF (by omega)
  have m8 : ((c.kind : Int) == 8) = false := bF (by omega)
  have m9 : ((c.kind : Int) == 9) = false := bF (by omega)
  have m10 : ((c.kind : Int) == 10) = false := bF (by omega)
  have m11 : ((c.kind : Int) == 11) = false := bF (by omega)
  clear hk
  go_enter Try.func24, Try.ntmps24
  go_upto_region 1 with (fail)
  change Code.wp _ _ _ _ ((((w.alloc (.cells d.cells 46)).alloc (.cells (Cmd.arr c (.slice A n0 cp)) 35)).alloc (.cells (rep 0 0) 31)).alloc (.cells Dk.new.cells 46))
  generalize ((((w.alloc (.cells d.cells 46)).alloc (.cells (Cmd.arr c (.slice A n0 cp)) 35)).alloc (.cells (rep 0 0) 31)).alloc (.cells Dk.new.cells 46)) = w1 at *
  have hX1 := HX.out
  have hk0 := HX.out.c0
  go_wp2_with (first
    | (refine wpList_load_row_g rfl 35 _ rfl (w.heap.size + 1) rfl 35 _ (0, 0) _ HX.out.cm Try.underlying35 rfl (by kernel_rfl) ?_))
  refine (CK.out _ HX.out.bel).mono ?_
  rintro e w2 ⟨rfl, hb2⟩
  have HX2 := Lib.hid (HX.out.below hb2)
  clear hb2 HX hX1 hk0
  have ck0 := HX2.out.c0
  have ck4 := HX2.out.c4
  have ck5 := HX2.out.c5
  have ck6 := HX2.out.c6
  have MY := Lib.hid (fun W => rMay_any d ini false W HF.out.len)
  rw [hm] at MY
  go_wp2_with (first
    | (refine wpList_load_row_g rfl 46 _ rfl w.heap.size rfl 46 _ (0, 0) _ HX2.out.dk HU.out rfl (info41 HF.out.len) ?_))
  refine (MY.out _).mono ?_
  rintro e w3 ⟨rfl, hb3⟩
  have HX3 := Lib.hid (HX2.out.below hb3)
  clear hb3 MY HX2 ck0 ck4 ck5 ck6 hm
  go_upto_region 6 with (fail)
  refine wp_region_held_drew (S := fun W => W.heap[w.heap.size]? = some (.cells (d).cells 46 (0, 0))) (by kernel_rfl) HX3.out.dk (fun hS => ?_)
  have HG1 := Lib.hid (HX3.out.below (Below.refl _ _).drew)
  generalize World.drew _ = wr0 at *
  refine wpAnyH_take (i := 0) (v := ?_) rfl (by kernel_rfl) (by kernel_rfl) (by kernel_rfl) (fun _ _ _ h => h) (Or.inl ⟨by rfl, ?_⟩) hS ?_
  rotate_left
  · intro w' hSw; go_simp; try rfl
  try simp only [Act.put, List.getElem_toArray, List.getElem_cons_succ, List.getElem_cons_zero, List.setIfInBounds_toArray, List.set_cons_zero, List.set_cons_succ]
  refine wpAnyH_take (i := 1) (v := .agg (d).cells) rfl (by kernel_rfl) (by kernel_rfl) (by kernel_rfl) (fun _ _ _ h => h) (Or.inl ⟨by rfl, fun w' hSw => ?_⟩) hS ?_
  · exact exec_load_row 46 _ rfl w.heap.size rfl 46 _ (0, 0) _ hSw HU.out rfl (info41 HF.out.len)
  try simp only [Act.put, List.getElem_toArray, List.getElem_cons_succ, List.getElem_cons_zero, List.setIfInBounds_toArray, List.set_cons_zero, List.set_cons_succ]
  refine wpAnyH_ready (rs := [2]) (by kernel_rfl) (by simp) ?_
  refine AllReadyH.cons rfl (fun K hK => ?_) AllReadyH.nil
  rw [if_pos (by rfl)]
  refine wp_store_row 31 _ _ rfl (w.heap.size + 2) (rep 3 0) rfl rfl 31 _ HG1.out.rp (by kernel_rfl) rfl (rep_one _ _) ?_
  have HG2 := Lib.hid (HG1.out.setRp (rep 3 0))
  refine hK.out _ _ HG2.out.dk (fun hS => ?_)
  clear hK K HG1
  try simp only [Act.put, List.getElem_toArray, List.getElem_cons_succ, List.getElem_cons_zero, List.setIfInBounds_toArray, List.set_cons_zero, List.set_cons_succ]
  generalize World.setRow _ _ _ = wr1 at *
  refine wpAnyH_take (i := 3) (v := ?_) rfl (by kernel_rfl) (by kernel_rfl) (by kernel_rfl) (fun _ _ _ h => h) (Or.inl ⟨by rfl, ?_⟩) hS ?_
  rotate_left
  · intro w' hSw; go_simp; try rfl
  try simp only [Act.put, List.getElem_toArray, List.getElem_cons_succ, List.getElem_cons_zero, List.setIfInBounds_toArray, List.set_cons_zero, List.set_cons_succ]
  refine wpAnyH_ready (rs := [4]) (by kernel_rfl) (by simp) ?_
  refine AllReadyH.cons rfl (fun K hK => ?_) AllReadyH.nil
  rw [if_pos (by rfl)]
  refine wp_store_row 46 _ _ rfl (w.heap.size + 3) (d).cells rfl rfl 46 _ HG2.out.rd (info41 HF.out.len) (by rw [cells_size HF.out.len]; rfl) (one41 _) ?_
  have HG3 := Lib.hid (HG2.out.setRd (d))
  refine hK.out _ _ HG3.out.dk (fun hS => ?_)
  clear hK K HG2
  try simp only [Act.put, List.getElem_toArray, List.getElem_cons_succ, List.getElem_cons_zero, List.setIfInBounds_toArray, List.set_cons_zero, List.set_cons_succ]
  refine wpAnyH_done (by kernel_rfl) ?_ _
  go_wp2_with (fail)
  refine bodyPost_ret (results_ctc rfl _ _ (w.heap.size + 2) (w.heap.size + 3) 31 46 _ _ (0, 0) (0, 0) _ _ rfl HG3.out.rp Try.underlying31 rfl (by kernel_rfl) rfl HG3.out.rd HU.out rfl (info41 HF.out.len)) rfl ?_
  exact ⟨rfl, HG3.out.bel⟩
set_option maxRecDepth 100000 in
set_option maxHeartbeats 4000000 in
theorem rgate_3y (d : Dk) (cap ini : Int) (c : Cmd) (dv : Value) (w : World) (hf : d.fine) (hs : Wd.Secs w dv c) (hc : (Lit.int .i64 cap).wf = true) (hini : isIn ini) (hchk : c.chk cap = 0) (hk : c.kind = 3) (hm : d.may ini true = true) :
    Calls Try.prog 24 #[.agg d.cells, .int .i64 cap, .int .i64 ini, c.val dv] w (RGPost w (0, 0, false) d) := by
  obtain ⟨fs, hu⟩ := u41
  have HU := Lib.hid hu
  have hX := Gx.start w d c dv
  have CK := Lib.hid (fun W hW => Wd.rcheck_any c dv cap W (hs.below hW) hc)
  have HF := Lib.hid hf
  obtain ⟨A, n0, cp, rfl⟩ : ∃ A n0 cp, dv = .slice A n0 cp := by
    obtain ⟨_, A, cp, h1, _⟩ := hs; exact ⟨A, _, cp, h1⟩
  have HX := Lib.hid hX
  clear hX hu hf hs
  have hcv : c.val (.slice A n0 cp) = .agg #[.int .i64 c.kind, .int .i64 c.lba, .int .i64 c.count, .slice A n0 cp, .int .u64 c.key, .int .i64 c.res, .bool c.keep] := rfl
  rw [hcv]
  clear hcv
  have i0 : ¬ ini < 0 := fun h => by have := hini.1; omega
  have i1 : ¬ 16 ≤ ini := fun h => by have := hini.2; omega
  have hxb : ((c.chk cap : Int) == 0) = true := bT hchk
  have hxn : ((c.chk cap : Int) != 0) = false := nF hchk
  generalize c.chk cap = X at *
  clear hchk hini
  have m2 : ((c.kind : Int) == 2) = false := bF (by omega)
  have m3 : ((c.kind : Int) == 3) = true := bT hk
  have m5 : ((c.kind : Int) == 5) = false := bF (by omega)
  have m6 : ((c.kind : Int) == 6) = false := bF (by omega)
  have m7 : ((c.kind : Int) == 7) = false := bF (by omega)
  have m8 : ((c.kind : Int) == 8) = false := bF (by omega)
  have m9 : ((c.kind : Int) == 9) = false := bF (by omega)
  have m10 : ((c.kind : Int) == 10) = false := bF (by omega)
  have m11 : ((c.kind : Int) == 11) = false := bF (by omega)
  clear hk
  go_enter Try.func24, Try.ntmps24
  go_upto_region 1 with (fail)
  change Code.wp _ _ _ _ ((((w.alloc (.cells d.cells 46)).alloc (.cells (Cmd.arr c (.slice A n0 cp)) 35)).alloc (.cells (rep 0 0) 31)).alloc (.cells Dk.new.cells 46))
  generalize ((((w.alloc (.cells d.cells 46)).alloc (.cells (Cmd.arr c (.slice A n0 cp)) 35)).alloc (.cells (rep 0 0) 31)).alloc (.cells Dk.new.cells 46)) = w1 at *
  have hX1 := HX.out
  have hk0 := HX.out.c0
  go_wp2_with (first
    | (refine wpList_load_row_g rfl 35 _ rfl (w.heap.size + 1) rfl 35 _ (0, 0) _ HX.out.cm Try.underlying35 rfl (by kernel_rfl) ?_))
  refine (CK.out _ HX.out.bel).mono ?_
  rintro e w2 ⟨rfl, hb2⟩
  have HX2 := Lib.hid (HX.out.below hb2)
  clear hb2 HX hX1 hk0
  have ck0 := HX2.out.c0
  have ck4 := HX2.out.c4
  have ck5 := HX2.out.c5
  have ck6 := HX2.out.c6
  have MY := Lib.hid (fun W => rMay_any d ini true W HF.out.len)
  rw [hm] at MY
  go_wp2_with (first
    | (refine wpList_load_row_g rfl 46 _ rfl w.heap.size rfl 46 _ (0, 0) _ HX2.out.dk HU.out rfl (info41 HF.out.len) ?_))
  refine (MY.out _).mono ?_
  rintro e w3 ⟨rfl, hb3⟩
  have HX3 := Lib.hid (HX2.out.below hb3)
  clear hb3 MY HX2 ck0 ck4 ck5 ck6 hm
  go_upto_region 7 with (fail)
  refine wp_region_held_drew (S := fun W => W.heap[w.heap.size]? = some (.cells (d).cells 46 (0, 0))) (by kernel_rfl) HX3.out.dk (fun hS => ?_)
  have HG1 := Lib.hid (HX3.out.below (Below.refl _ _).drew)
  generalize World.drew _ = wr0 at *
  refine wpAnyH_take (i := 0) (v := ?_) rfl (by kernel_rfl) (by kernel_rfl) (by kernel_rfl) (fun _ _ _ h => h) (Or.inl ⟨by rfl, ?_⟩) hS ?_
  rotate_left
  · intro w' hSw; go_simp; try rfl
  try simp only [Act.put, List.getElem_toArray, List.getElem_cons_succ, List.getElem_cons_zero, List.setIfInBounds_toArray, List.set_cons_zero, List.set_cons_succ]
  refine wpAnyH_take (i := 1) (v := .agg (d).cells) rfl (by kernel_rfl) (by kernel_rfl) (by kernel_rfl) (fun _ _ _ h => h) (Or.inl ⟨by rfl, fun w' hSw => ?_⟩) hS ?_
  · exact exec_load_row 46 _ rfl w.heap.size rfl 46 _ (0, 0) _ hSw HU.out rfl (info41 HF.out.len)
  try simp only [Act.put, List.getElem_toArray, List.getElem_cons_succ, List.getElem_cons_zero, List.setIfInBounds_toArray, List.set_cons_zero, List.set_cons_succ]
  refine wpAnyH_ready (rs := [2]) (by kernel_rfl) (by simp) ?_
  refine AllReadyH.cons rfl (fun K hK => ?_) AllReadyH.nil
  rw [if_pos (by rfl)]
  refine wp_store_row 31 _ _ rfl (w.heap.size + 2) (rep 0 0) rfl rfl 31 _ HG1.out.rp (by kernel_rfl) rfl (rep_one _ _) ?_
  have HG2 := Lib.hid (HG1.out.setRp (rep 0 0))
  refine hK.out _ _ HG2.out.dk (fun hS => ?_)
  clear hK K HG1
  try simp only [Act.put, List.getElem_toArray, List.getElem_cons_succ, List.getElem_cons_zero, List.setIfInBounds_toArray, List.set_cons_zero, List.set_cons_succ]
  generalize World.setRow _ _ _ = wr1 at *
  refine wpAnyH_take (i := 3) (v := ?_) rfl (by kernel_rfl) (by kernel_rfl) (by kernel_rfl) (fun _ _ _ h => h) (Or.inl ⟨by rfl, ?_⟩) hS ?_
  rotate_left
  · intro w' hSw; go_simp; try rfl
  try simp only [Act.put, List.getElem_toArray, List.getElem_cons_succ, List.getElem_cons_zero, List.setIfInBounds_toArray, List.set_cons_zero, List.set_cons_succ]
  refine wpAnyH_ready (rs := [4]) (by kernel_rfl) (by simp) ?_
  refine AllReadyH.cons rfl (fun K hK => ?_) AllReadyH.nil
  rw [if_pos (by rfl)]
  refine wp_store_row 46 _ _ rfl (w.heap.size + 3) (d).cells rfl rfl 46 _ HG2.out.rd (info41 HF.out.len) (by rw [cells_size HF.out.len]; rfl) (one41 _) ?_
  have HG3 := Lib.hid (HG2.out.setRd (d))
  refine hK.out _ _ HG3.out.dk (fun hS => ?_)
  clear hK K HG2
  try simp only [Act.put, List.getElem_toArray, List.getElem_cons_succ, List.getElem_cons_zero, List.setIfInBounds_toArray, List.set_cons_zero, List.set_cons_succ]
  refine wpAnyH_done (by kernel_rfl) ?_ _
  go_wp2_with (fail)
  refine bodyPost_ret (results_ctc rfl _ _ (w.heap.size + 2) (w.heap.size + 3) 31 46 _ _ (0, 0) (0, 0) _ _ rfl HG3.out.rp Try.underlying31 rfl (by kernel_rfl) rfl HG3.out.rd HU.out rfl (info41 HF.out.len)) rfl ?_
  exact ⟨rfl, HG3.out.bel⟩
set_option maxRecDepth 100000 in
set_option maxHeartbeats 4000000 in
theorem rgate_3n (d : Dk) (cap ini : Int) (c : Cmd) (dv : Value) (w : World) (hf : d.fine) (hs : Wd.Secs w dv c) (hc : (Lit.int .i64 cap).wf = true) (hini : isIn ini) (hchk : c.chk cap = 0) (hk : c.kind = 3) (hm : d.may ini true = false) :
    Calls Try.prog 24 #[.agg d.cells, .int .i64 cap, .int .i64 ini, c.val dv] w (RGPost w (3, 0, true) d) := by
  obtain ⟨fs, hu⟩ := u41
  have HU := Lib.hid hu
  have hX := Gx.start w d c dv
  have CK := Lib.hid (fun W hW => Wd.rcheck_any c dv cap W (hs.below hW) hc)
  have HF := Lib.hid hf
  obtain ⟨A, n0, cp, rfl⟩ : ∃ A n0 cp, dv = .slice A n0 cp := by
    obtain ⟨_, A, cp, h1, _⟩ := hs; exact ⟨A, _, cp, h1⟩
  have HX := Lib.hid hX
  clear hX hu hf hs
  have hcv : c.val (.slice A n0 cp) = .agg #[.int .i64 c.kind, .int .i64 c.lba, .int .i64 c.count, .slice A n0 cp, .int .u64 c.key, .int .i64 c.res, .bool c.keep] := rfl
  rw [hcv]
  clear hcv
  have i0 : ¬ ini < 0 := fun h => by have := hini.1; omega
  have i1 : ¬ 16 ≤ ini := fun h => by have := hini.2; omega
  have hxb : ((c.chk cap : Int) == 0) = true := bT hchk
  have hxn : ((c.chk cap : Int) != 0) = false := nF hchk
  generalize c.chk cap = X at *
  clear hchk hini
  have m2 : ((c.kind : Int) == 2) = false := bF (by omega)
  have m3 : ((c.kind : Int) == 3) = true := bT hk
  have m5 : ((c.kind : Int) == 5) = false := bF (by omega)
  have m6 : ((c.kind : Int) == 6) = false := bF (by omega)
  have m7 : ((c.kind : Int) == 7) = false := bF (by omega)
  have m8 : ((c.kind : Int) == 8) = false := bF (by omega)
  have m9 : ((c.kind : Int) == 9) = false := bF (by omega)
  have m10 : ((c.kind : Int) == 10) = false := bF (by omega)
  have m11 : ((c.kind : Int) == 11) = false := bF (by omega)
  clear hk
  go_enter Try.func24, Try.ntmps24
  go_upto_region 1 with (fail)
  change Code.wp _ _ _ _ ((((w.alloc (.cells d.cells 46)).alloc (.cells (Cmd.arr c (.slice A n0 cp)) 35)).alloc (.cells (rep 0 0) 31)).alloc (.cells Dk.new.cells 46))
  generalize ((((w.alloc (.cells d.cells 46)).alloc (.cells (Cmd.arr c (.slice A n0 cp)) 35)).alloc (.cells (rep 0 0) 31)).alloc (.cells Dk.new.cells 46)) = w1 at *
  have hX1 := HX.out
  have hk0 := HX.out.c0
  go_wp2_with (first
    | (refine wpList_load_row_g rfl 35 _ rfl (w.heap.size + 1) rfl 35 _ (0, 0) _ HX.out.cm Try.underlying35 rfl (by kernel_rfl) ?_))
  refine (CK.out _ HX.out.bel).mono ?_
  rintro e w2 ⟨rfl, hb2⟩
  have HX2 := Lib.hid (HX.out.below hb2)
  clear hb2 HX hX1 hk0
  have ck0 := HX2.out.c0
  have ck4 := HX2.out.c4
  have ck5 := HX2.out.c5
  have ck6 := HX2.out.c6
  have MY := Lib.hid (fun W => rMay_any d ini true W HF.out.len)
  rw [hm] at MY
  go_wp2_with (first
    | (refine wpList_load_row_g rfl 46 _ rfl w.heap.size rfl 46 _ (0, 0) _ HX2.out.dk HU.out rfl (info41 HF.out.len) ?_))
  refine (MY.out _).mono ?_
  rintro e w3 ⟨rfl, hb3⟩
  have HX3 := Lib.hid (HX2.out.below hb3)
  clear hb3 MY HX2 ck0 ck4 ck5 ck6 hm
  go_upto_region 6 with (fail)
  refine wp_region_held_drew (S := fun W => W.heap[w.heap.size]? = some (.cells (d).cells 46 (0, 0))) (by kernel_rfl) HX3.out.dk (fun hS => ?_)
  have HG1 := Lib.hid (HX3.out.below (Below.refl _ _).drew)
  generalize World.drew _ = wr0 at *
  refine wpAnyH_take (i := 0) (v := ?_) rfl (by kernel_rfl) (by kernel_rfl) (by kernel_rfl) (fun _ _ _ h => h) (Or.inl ⟨by rfl, ?_⟩) hS ?_
  rotate_left
  · intro w' hSw; go_simp; try rfl
  try simp only [Act.put, List.getElem_toArray, List.getElem_cons_succ, List.getElem_cons_zero, List.setIfInBounds_toArray, List.set_cons_zero, List.set_cons_succ]
  refine wpAnyH_take (i := 1) (v := .agg (d).cells) rfl (by kernel_rfl) (by kernel_rfl) (by kernel_rfl) (fun _ _ _ h => h) (Or.inl ⟨by rfl, fun w' hSw => ?_⟩) hS ?_
  · exact exec_load_row 46 _ rfl w.heap.size rfl 46 _ (0, 0) _ hSw HU.out rfl (info41 HF.out.len)
  try simp only [Act.put, List.getElem_toArray, List.getElem_cons_succ, List.getElem_cons_zero, List.setIfInBounds_toArray, List.set_cons_zero, List.set_cons_succ]
  refine wpAnyH_ready (rs := [2]) (by kernel_rfl) (by simp) ?_
  refine AllReadyH.cons rfl (fun K hK => ?_) AllReadyH.nil
  rw [if_pos (by rfl)]
  refine wp_store_row 31 _ _ rfl (w.heap.size + 2) (rep 3 0) rfl rfl 31 _ HG1.out.rp (by kernel_rfl) rfl (rep_one _ _) ?_
  have HG2 := Lib.hid (HG1.out.setRp (rep 3 0))
  refine hK.out _ _ HG2.out.dk (fun hS => ?_)
  clear hK K HG1
  try simp only [Act.put, List.getElem_toArray, List.getElem_cons_succ, List.getElem_cons_zero, List.setIfInBounds_toArray, List.set_cons_zero, List.set_cons_succ]
  generalize World.setRow _ _ _ = wr1 at *
  refine wpAnyH_take (i := 3) (v := ?_) rfl (by kernel_rfl) (by kernel_rfl) (by kernel_rfl) (fun _ _ _ h => h) (Or.inl ⟨by rfl, ?_⟩) hS ?_
  rotate_left
  · intro w' hSw; go_simp; try rfl
  try simp only [Act.put, List.getElem_toArray, List.getElem_cons_succ, List.getElem_cons_zero, List.setIfInBounds_toArray, List.set_cons_zero, List.set_cons_succ]
  refine wpAnyH_ready (rs := [4]) (by kernel_rfl) (by simp) ?_
  refine AllReadyH.cons rfl (fun K hK => ?_) AllReadyH.nil
  rw [if_pos (by rfl)]
  refine wp_store_row 46 _ _ rfl (w.heap.size + 3) (d).cells rfl rfl 46 _ HG2.out.rd (info41 HF.out.len) (by rw [cells_size HF.out.len]; rfl) (one41 _) ?_
  have HG3 := Lib.hid (HG2.out.setRd (d))
  refine hK.out _ _ HG3.out.dk (fun hS => ?_)
  clear hK K HG2
  try simp only [Act.put, List.getElem_toArray, List.getElem_cons_succ, List.getElem_cons_zero, List.setIfInBounds_toArray, List.set_cons_zero, List.set_cons_succ]
  refine wpAnyH_done (by kernel_rfl) ?_ _
  go_wp2_with (fail)
  refine bodyPost_ret (results_ctc rfl _ _ (w.heap.size + 2) (w.heap.size + 3) 31 46 _ _ (0, 0) (0, 0) _ _ rfl HG3.out.rp Try.underlying31 rfl (by kernel_rfl) rfl HG3.out.rd HU.out rfl (info41 HF.out.len)) rfl ?_
  exact ⟨rfl, HG3.out.bel⟩
set_option maxRecDepth 100000 in
set_option maxHeartbeats 4000000 in
theorem rgate_5y (d : Dk) (cap ini : Int) (c : Cmd) (dv : Value) (w : World) (hf : d.fine) (hs : Wd.Secs w dv c) (hc : (Lit.int .i64 cap).wf = true) (hini : isIn ini) (hchk : c.chk cap = 0) (hk : c.kind = 5) (hm : d.may ini true = true) :
    Calls Try.prog 24 #[.agg d.cells, .int .i64 cap, .int .i64 ini, c.val dv] w (RGPost w (0, 0, false) d) := by
  obtain ⟨fs, hu⟩ := u41
  have HU := Lib.hid hu
  have hX := Gx.start w d c dv
  have CK := Lib.hid (fun W hW => Wd.rcheck_any c dv cap W (hs.below hW) hc)
  have HF := Lib.hid hf
  obtain ⟨A, n0, cp, rfl⟩ : ∃ A n0 cp, dv = .slice A n0 cp := by
    obtain ⟨_, A, cp, h1, _⟩ := hs; exact ⟨A, _, cp, h1⟩
  have HX := Lib.hid hX
  clear hX hu hf hs
  have hcv : c.val (.slice A n0 cp) = .agg #[.int .i64 c.kind, .int .i64 c.lba, .int .i64 c.count, .slice A n0 cp, .int .u64 c.key, .int .i64 c.res, .bool c.keep] := rfl
  rw [hcv]
  clear hcv
  have i0 : ¬ ini < 0 := fun h => by have := hini.1; omega
  have i1 : ¬ 16 ≤ ini := fun h => by have := hini.2; omega
  have hxb : ((c.chk cap : Int) == 0) = true := bT hchk
  have hxn : ((c.chk cap : Int) != 0) = false := nF hchk
  generalize c.chk cap = X at *
  clear hchk hini
  have m2 : ((c.kind : Int) == 2) = false := bF (by omega)
  have m3 : ((c.kind : Int) == 3) = false := bF (by omega)
  have m5 : ((c.kind : Int) == 5) = true := bT hk
  have m6 : ((c.kind : Int) == 6) = false := bF (by omega)
  have m7 : ((c.kind : Int) == 7) = false := bF (by omega)
  have m8 : ((c.kind : Int) == 8) = false := bF (by omega)
  have m9 : ((c.kind : Int) == 9) = false := bF (by omega)
  have m10 : ((c.kind : Int) == 10) = false := bF (by omega)
  have m11 : ((c.kind : Int) == 11) = false := bF (by omega)
  clear hk
  go_enter Try.func24, Try.ntmps24
  go_upto_region 1 with (fail)
  change Code.wp _ _ _ _ ((((w.alloc (.cells d.cells 46)).alloc (.cells (Cmd.arr c (.slice A n0 cp)) 35)).alloc (.cells (rep 0 0) 31)).alloc (.cells Dk.new.cells 46))
  generalize ((((w.alloc (.cells d.cells 46)).alloc (.cells (Cmd.arr c (.slice A n0 cp)) 35)).alloc (.cells (rep 0 0) 31)).alloc (.cells Dk.new.cells 46)) = w1 at *
  have hX1 := HX.out
  have hk0 := HX.out.c0
  go_wp2_with (first
    | (refine wpList_load_row_g rfl 35 _ rfl (w.heap.size + 1) rfl 35 _ (0, 0) _ HX.out.cm Try.underlying35 rfl (by kernel_rfl) ?_))
  refine (CK.out _ HX.out.bel).mono ?_
  rintro e w2 ⟨rfl, hb2⟩
  have HX2 := Lib.hid (HX.out.below hb2)
  clear hb2 HX hX1 hk0
  have ck0 := HX2.out.c0
  have ck4 := HX2.out.c4
  have ck5 := HX2.out.c5
  have ck6 := HX2.out.c6
  have MY := Lib.hid (fun W => rMay_any d ini true W HF.out.len)
  rw [hm] at MY
  go_wp2_with (first
    | (refine wpList_load_row_g rfl 46 _ rfl w.heap.size rfl 46 _ (0, 0) _ HX2.out.dk HU.out rfl (info41 HF.out.len) ?_))
  refine (MY.out _).mono ?_
  rintro e w3 ⟨rfl, hb3⟩
  have HX3 := Lib.hid (HX2.out.below hb3)
  clear hb3 MY HX2 ck0 ck4 ck5 ck6 hm
  go_upto_region 7 with (fail)
  refine wp_region_held_drew (S := fun W => W.heap[w.heap.size]? = some (.cells (d).cells 46 (0, 0))) (by kernel_rfl) HX3.out.dk (fun hS => ?_)
  have HG1 := Lib.hid (HX3.out.below (Below.refl _ _).drew)
  generalize World.drew _ = wr0 at *
  refine wpAnyH_take (i := 0) (v := ?_) rfl (by kernel_rfl) (by kernel_rfl) (by kernel_rfl) (fun _ _ _ h => h) (Or.inl ⟨by rfl, ?_⟩) hS ?_
  rotate_left
  · intro w' hSw; go_simp; try rfl
  try simp only [Act.put, List.getElem_toArray, List.getElem_cons_succ, List.getElem_cons_zero, List.setIfInBounds_toArray, List.set_cons_zero, List.set_cons_succ]
  refine wpAnyH_take (i := 1) (v := .agg (d).cells) rfl (by kernel_rfl) (by kernel_rfl) (by kernel_rfl) (fun _ _ _ h => h) (Or.inl ⟨by rfl, fun w' hSw => ?_⟩) hS ?_
  · exact exec_load_row 46 _ rfl w.heap.size rfl 46 _ (0, 0) _ hSw HU.out rfl (info41 HF.out.len)
  try simp only [Act.put, List.getElem_toArray, List.getElem_cons_succ, List.getElem_cons_zero, List.setIfInBounds_toArray, List.set_cons_zero, List.set_cons_succ]
  refine wpAnyH_ready (rs := [2]) (by kernel_rfl) (by simp) ?_
  refine AllReadyH.cons rfl (fun K hK => ?_) AllReadyH.nil
  rw [if_pos (by rfl)]
  refine wp_store_row 31 _ _ rfl (w.heap.size + 2) (rep 0 0) rfl rfl 31 _ HG1.out.rp (by kernel_rfl) rfl (rep_one _ _) ?_
  have HG2 := Lib.hid (HG1.out.setRp (rep 0 0))
  refine hK.out _ _ HG2.out.dk (fun hS => ?_)
  clear hK K HG1
  try simp only [Act.put, List.getElem_toArray, List.getElem_cons_succ, List.getElem_cons_zero, List.setIfInBounds_toArray, List.set_cons_zero, List.set_cons_succ]
  generalize World.setRow _ _ _ = wr1 at *
  refine wpAnyH_take (i := 3) (v := ?_) rfl (by kernel_rfl) (by kernel_rfl) (by kernel_rfl) (fun _ _ _ h => h) (Or.inl ⟨by rfl, ?_⟩) hS ?_
  rotate_left
  · intro w' hSw; go_simp; try rfl
  try simp only [Act.put, List.getElem_toArray, List.getElem_cons_succ, List.getElem_cons_zero, List.setIfInBounds_toArray, List.set_cons_zero, List.set_cons_succ]
  refine wpAnyH_ready (rs := [4]) (by kernel_rfl) (by simp) ?_
  refine AllReadyH.cons rfl (fun K hK => ?_) AllReadyH.nil
  rw [if_pos (by rfl)]
  refine wp_store_row 46 _ _ rfl (w.heap.size + 3) (d).cells rfl rfl 46 _ HG2.out.rd (info41 HF.out.len) (by rw [cells_size HF.out.len]; rfl) (one41 _) ?_
  have HG3 := Lib.hid (HG2.out.setRd (d))
  refine hK.out _ _ HG3.out.dk (fun hS => ?_)
  clear hK K HG2
  try simp only [Act.put, List.getElem_toArray, List.getElem_cons_succ, List.getElem_cons_zero, List.setIfInBounds_toArray, List.set_cons_zero, List.set_cons_succ]
  refine wpAnyH_done (by kernel_rfl) ?_ _
  go_wp2_with (fail)
  refine bodyPost_ret (results_ctc rfl _ _ (w.heap.size + 2) (w.heap.size + 3) 31 46 _ _ (0, 0) (0, 0) _ _ rfl HG3.out.rp Try.underlying31 rfl (by kernel_rfl) rfl HG3.out.rd HU.out rfl (info41 HF.out.len)) rfl ?_
  exact ⟨rfl, HG3.out.bel⟩
set_option maxRecDepth 100000 in
set_option maxHeartbeats 4000000 in
theorem rgate_5n (d : Dk) (cap ini : Int) (c : Cmd) (dv : Value) (w : World) (hf : d.fine) (hs : Wd.Secs w dv c) (hc : (Lit.int .i64 cap).wf = true) (hini : isIn ini) (hchk : c.chk cap = 0) (hk : c.kind = 5) (hm : d.may ini true = false) :
    Calls Try.prog 24 #[.agg d.cells, .int .i64 cap, .int .i64 ini, c.val dv] w (RGPost w (3, 0, true) d) := by
  obtain ⟨fs, hu⟩ := u41
  have HU := Lib.hid hu
  have hX := Gx.start w d c dv
  have CK := Lib.hid (fun W hW => Wd.rcheck_any c dv cap W (hs.below hW) hc)
  have HF := Lib.hid hf
  obtain ⟨A, n0, cp, rfl⟩ : ∃ A n0 cp, dv = .slice A n0 cp := by
    obtain ⟨_, A, cp, h1, _⟩ := hs; exact ⟨A, _, cp, h1⟩
  have HX := Lib.hid hX
  clear hX hu hf hs
  have hcv : c.val (.slice A n0 cp) = .agg #[.int .i64 c.kind, .int .i64 c.lba, .int .i64 c.count, .slice A n0 cp, .int .u64 c.key, .int .i64 c.res, .bool c.keep] := rfl
  rw [hcv]
  clear hcv
  have i0 : ¬ ini < 0 := fun h => by have := hini.1; omega
  have i1 : ¬ 16 ≤ ini := fun h => by have := hini.2; omega
  have hxb : ((c.chk cap : Int) == 0) = true := bT hchk
  have hxn : ((c.chk cap : Int) != 0) = false := nF hchk
  generalize c.chk cap = X at *
  clear hchk hini
  have m2 : ((c.kind : Int) == 2) = false := bF (by omega)
  have m3 : ((c.kind : Int) == 3) = false := bF (by omega)
  have m5 : ((c.kind : Int) == 5) = true := bT hk
  have m6 : ((c.kind : Int) == 6) = false := bF (by omega)
  have m7 : ((c.kind : Int) == 7) = false := bF (by omega)
  have m8 : ((c.kind : Int) == 8) = false := bF (by omega)
  have m9 : ((c.kind : Int) == 9) = false := bF (by omega)
  have m10 : ((c.kind : Int) == 10) = false := bF (by omega)
  have m11 : ((c.kind : Int) == 11) = false := bF (by omega)
  clear hk
  go_enter Try.func24, Try.ntmps24
  go_upto_region 1 with (fail)
  change Code.wp _ _ _ _ ((((w.alloc (.cells d.cells 46)).alloc (.cells (Cmd.arr c (.slice A n0 cp)) 35)).alloc (.cells (rep 0 0) 31)).alloc (.cells Dk.new.cells 46))
  generalize ((((w.alloc (.cells d.cells 46)).alloc (.cells (Cmd.arr c (.slice A n0 cp)) 35)).alloc (.cells (rep 0 0) 31)).alloc (.cells Dk.new.cells 46)) = w1 at *
  have hX1 := HX.out
  have hk0 := HX.out.c0
  go_wp2_with (first
    | (refine wpList_load_row_g rfl 35 _ rfl (w.heap.size + 1) rfl 35 _ (0, 0) _ HX.out.cm Try.underlying35 rfl (by kernel_rfl) ?_))
  refine (CK.out _ HX.out.bel).mono ?_
  rintro e w2 ⟨rfl, hb2⟩
  have HX2 := Lib.hid (HX.out.below hb2)
  clear hb2 HX hX1 hk0
  have ck0 := HX2.out.c0
  have ck4 := HX2.out.c4
  have ck5 := HX2.out.c5
  have ck6 := HX2.out.c6
  have MY := Lib.hid (fun W => rMay_any d ini true W HF.out.len)
  rw [hm] at MY
  go_wp2_with (first
    | (refine wpList_load_row_g rfl 46 _ rfl w.heap.size rfl 46 _ (0, 0) _ HX2.out.dk HU.out rfl (info41 HF.out.len) ?_))
  refine (MY.out _).mono ?_
  rintro e w3 ⟨rfl, hb3⟩
  have HX3 := Lib.hid (HX2.out.below hb3)
  clear hb3 MY HX2 ck0 ck4 ck5 ck6 hm
  go_upto_region 6 with (fail)
  refine wp_region_held_drew (S := fun W => W.heap[w.heap.size]? = some (.cells (d).cells 46 (0, 0))) (by kernel_rfl) HX3.out.dk (fun hS => ?_)
  have HG1 := Lib.hid (HX3.out.below (Below.refl _ _).drew)
  generalize World.drew _ = wr0 at *
  refine wpAnyH_take (i := 0) (v := ?_) rfl (by kernel_rfl) (by kernel_rfl) (by kernel_rfl) (fun _ _ _ h => h) (Or.inl ⟨by rfl, ?_⟩) hS ?_
  rotate_left
  · intro w' hSw; go_simp; try rfl
  try simp only [Act.put, List.getElem_toArray, List.getElem_cons_succ, List.getElem_cons_zero, List.setIfInBounds_toArray, List.set_cons_zero, List.set_cons_succ]
  refine wpAnyH_take (i := 1) (v := .agg (d).cells) rfl (by kernel_rfl) (by kernel_rfl) (by kernel_rfl) (fun _ _ _ h => h) (Or.inl ⟨by rfl, fun w' hSw => ?_⟩) hS ?_
  · exact exec_load_row 46 _ rfl w.heap.size rfl 46 _ (0, 0) _ hSw HU.out rfl (info41 HF.out.len)
  try simp only [Act.put, List.getElem_toArray, List.getElem_cons_succ, List.getElem_cons_zero, List.setIfInBounds_toArray, List.set_cons_zero, List.set_cons_succ]
  refine wpAnyH_ready (rs := [2]) (by kernel_rfl) (by simp) ?_
  refine AllReadyH.cons rfl (fun K hK => ?_) AllReadyH.nil
  rw [if_pos (by rfl)]
  refine wp_store_row 31 _ _ rfl (w.heap.size + 2) (rep 3 0) rfl rfl 31 _ HG1.out.rp (by kernel_rfl) rfl (rep_one _ _) ?_
  have HG2 := Lib.hid (HG1.out.setRp (rep 3 0))
  refine hK.out _ _ HG2.out.dk (fun hS => ?_)
  clear hK K HG1
  try simp only [Act.put, List.getElem_toArray, List.getElem_cons_succ, List.getElem_cons_zero, List.setIfInBounds_toArray, List.set_cons_zero, List.set_cons_succ]
  generalize World.setRow _ _ _ = wr1 at *
  refine wpAnyH_take (i := 3) (v := ?_) rfl (by kernel_rfl) (by kernel_rfl) (by kernel_rfl) (fun _ _ _ h => h) (Or.inl ⟨by rfl, ?_⟩) hS ?_
  rotate_left
  · intro w' hSw; go_simp; try rfl
  try simp only [Act.put, List.getElem_toArray, List.getElem_cons_succ, List.getElem_cons_zero, List.setIfInBounds_toArray, List.set_cons_zero, List.set_cons_succ]
  refine wpAnyH_ready (rs := [4]) (by kernel_rfl) (by simp) ?_
  refine AllReadyH.cons rfl (fun K hK => ?_) AllReadyH.nil
  rw [if_pos (by rfl)]
  refine wp_store_row 46 _ _ rfl (w.heap.size + 3) (d).cells rfl rfl 46 _ HG2.out.rd (info41 HF.out.len) (by rw [cells_size HF.out.len]; rfl) (one41 _) ?_
  have HG3 := Lib.hid (HG2.out.setRd (d))
  refine hK.out _ _ HG3.out.dk (fun hS => ?_)
  clear hK K HG2
  try simp only [Act.put, List.getElem_toArray, List.getElem_cons_succ, List.getElem_cons_zero, List.setIfInBounds_toArray, List.set_cons_zero, List.set_cons_succ]
  refine wpAnyH_done (by kernel_rfl) ?_ _
  go_wp2_with (fail)
  refine bodyPost_ret (results_ctc rfl _ _ (w.heap.size + 2) (w.heap.size + 3) 31 46 _ _ (0, 0) (0, 0) _ _ rfl HG3.out.rp Try.underlying31 rfl (by kernel_rfl) rfl HG3.out.rd HU.out rfl (info41 HF.out.len)) rfl ?_
  exact ⟨rfl, HG3.out.bel⟩
set_option maxRecDepth 100000 in
set_option maxHeartbeats 4000000 in
theorem rgate_6y (d : Dk) (cap ini : Int) (c : Cmd) (dv : Value) (w : World) (hf : d.fine) (hs : Wd.Secs w dv c) (hc : (Lit.int .i64 cap).wf = true) (hini : isIn ini) (hchk : c.chk cap = 0) (hk : c.kind = 6) (hm : d.may ini true = true) :
    Calls Try.prog 24 #[.agg d.cells, .int .i64 cap, .int .i64 ini, c.val dv] w (RGPost w (0, 0, false) d) := by
  obtain ⟨fs, hu⟩ := u41
  have HU := Lib.hid hu
  have hX := Gx.start w d c dv
  have CK := Lib.hid (fun W hW => Wd.rcheck_any c dv cap W (hs.below hW) hc)
  have HF := Lib.hid hf
  obtain ⟨A, n0, cp, rfl⟩ : ∃ A n0 cp, dv = .slice A n0 cp := by
    obtain ⟨_, A, cp, h1, _⟩ := hs; exact ⟨A, _, cp, h1⟩
  have HX := Lib.hid hX
  clear hX hu hf hs
  have hcv : c.val (.slice A n0 cp) = .agg #[.int .i64 c.kind, .int .i64 c.lba, .int .i64 c.count, .slice A n0 cp, .int .u64 c.key, .int .i64 c.res, .bool c.keep] := rfl
  rw [hcv]
  clear hcv
  have i0 : ¬ ini < 0 := fun h => by have := hini.1; omega
  have i1 : ¬ 16 ≤ ini := fun h => by have := hini.2; omega
  have hxb : ((c.chk cap : Int) == 0) = true := bT hchk
  have hxn : ((c.chk cap : Int) != 0) = false := nF hchk
  generalize c.chk cap = X at *
  clear hchk hini
  have m2 : ((c.kind : Int) == 2) = false := bF (by omega)
  have m3 : ((c.kind : Int) == 3) = false := bF (by omega)
  have m5 : ((c.kind : Int) == 5) = false := bF (by omega)
  have m6 : ((c.kind : Int) == 6) = true := bT hk
  have m7 : ((c.kind : Int) == 7) = false := bF (by omega)
  have m8 : ((c.kind : Int) == 8) = false := bF (by omega)
  have m9 : ((c.kind : Int) == 9) = false := bF (by omega)
  have m10 : ((c.kind : Int) == 10) = false := bF (by omega)
  have m11 : ((c.kind : Int) == 11) = false := bF (by omega)
  clear hk
  go_enter Try.func24, Try.ntmps24
  go_upto_region 1 with (fail)
  change Code.wp _ _ _ _ ((((w.alloc (.cells d.cells 46)).alloc (.cells (Cmd.arr c (.slice A n0 cp)) 35)).alloc (.cells (rep 0 0) 31)).alloc (.cells Dk.new.cells 46))
  generalize ((((w.alloc (.cells d.cells 46)).alloc (.cells (Cmd.arr c (.slice A n0 cp)) 35)).alloc (.cells (rep 0 0) 31)).alloc (.cells Dk.new.cells 46)) = w1 at *
  have hX1 := HX.out
  have hk0 := HX.out.c0
  go_wp2_with (first
    | (refine wpList_load_row_g rfl 35 _ rfl (w.heap.size + 1) rfl 35 _ (0, 0) _ HX.out.cm Try.underlying35 rfl (by kernel_rfl) ?_))
  refine (CK.out _ HX.out.bel).mono ?_
  rintro e w2 ⟨rfl, hb2⟩
  have HX2 := Lib.hid (HX.out.below hb2)
  clear hb2 HX hX1 hk0
  have ck0 := HX2.out.c0
  have ck4 := HX2.out.c4
  have ck5 := HX2.out.c5
  have ck6 := HX2.out.c6
  have MY := Lib.hid (fun W => rMay_any d ini true W HF.out.len)
  rw [hm] at MY
  go_wp2_with (first
    | (refine wpList_load_row_g rfl 46 _ rfl w.heap.size rfl 46 _ (0, 0) _ HX2.out.dk HU.out rfl (info41 HF.out.len) ?_))
  refine (MY.out _).mono ?_
  rintro e w3 ⟨rfl, hb3⟩
  have HX3 := Lib.hid (HX2.out.below hb3)
  clear hb3 MY HX2 ck0 ck4 ck5 ck6 hm
  go_upto_region 7 with (fail)
  refine wp_region_held_drew (S := fun W => W.heap[w.heap.size]? = some (.cells (d).cells 46 (0, 0))) (by kernel_rfl) HX3.out.dk (fun hS => ?_)
  have HG1 := Lib.hid (HX3.out.below (Below.refl _ _).drew)
  generalize World.drew _ = wr0 at *
  refine wpAnyH_take (i := 0) (v := ?_) rfl (by kernel_rfl) (by kernel_rfl) (by kernel_rfl) (fun _ _ _ h => h) (Or.inl ⟨by rfl, ?_⟩) hS ?_
  rotate_left
  · intro w' hSw; go_simp; try rfl
  try simp only [Act.put, List.getElem_toArray, List.getElem_cons_succ, List.getElem_cons_zero, List.setIfInBounds_toArray, List.set_cons_zero, List.set_cons_succ]
  refine wpAnyH_take (i := 1) (v := .agg (d).cells) rfl (by kernel_rfl) (by kernel_rfl) (by kernel_rfl) (fun _ _ _ h => h) (Or.inl ⟨by rfl, fun w' hSw => ?_⟩) hS ?_
  · exact exec_load_row 46 _ rfl w.heap.size rfl 46 _ (0, 0) _ hSw HU.out rfl (info41 HF.out.len)
  try simp only [Act.put, List.getElem_toArray, List.getElem_cons_succ, List.getElem_cons_zero, List.setIfInBounds_toArray, List.set_cons_zero, List.set_cons_succ]
  refine wpAnyH_ready (rs := [2]) (by kernel_rfl) (by simp) ?_
  refine AllReadyH.cons rfl (fun K hK => ?_) AllReadyH.nil
  rw [if_pos (by rfl)]
  refine wp_store_row 31 _ _ rfl (w.heap.size + 2) (rep 0 0) rfl rfl 31 _ HG1.out.rp (by kernel_rfl) rfl (rep_one _ _) ?_
  have HG2 := Lib.hid (HG1.out.setRp (rep 0 0))
  refine hK.out _ _ HG2.out.dk (fun hS => ?_)
  clear hK K HG1
  try simp only [Act.put, List.getElem_toArray, List.getElem_cons_succ, List.getElem_cons_zero, List.setIfInBounds_toArray, List.set_cons_zero, List.set_cons_succ]
  generalize World.setRow _ _ _ = wr1 at *
  refine wpAnyH_take (i := 3) (v := ?_) rfl (by kernel_rfl) (by kernel_rfl) (by kernel_rfl) (fun _ _ _ h => h) (Or.inl ⟨by rfl, ?_⟩) hS ?_
  rotate_left
  · intro w' hSw; go_simp; try rfl
  try simp only [Act.put, List.getElem_toArray, List.getElem_cons_succ, List.getElem_cons_zero, List.setIfInBounds_toArray, List.set_cons_zero, List.set_cons_succ]
  refine wpAnyH_ready (rs := [4]) (by kernel_rfl) (by simp) ?_
  refine AllReadyH.cons rfl (fun K hK => ?_) AllReadyH.nil
  rw [if_pos (by rfl)]
  refine wp_store_row 46 _ _ rfl (w.heap.size + 3) (d).cells rfl rfl 46 _ HG2.out.rd (info41 HF.out.len) (by rw [cells_size HF.out.len]; rfl) (one41 _) ?_
  have HG3 := Lib.hid (HG2.out.setRd (d))
  refine hK.out _ _ HG3.out.dk (fun hS => ?_)
  clear hK K HG2
  try simp only [Act.put, List.getElem_toArray, List.getElem_cons_succ, List.getElem_cons_zero, List.setIfInBounds_toArray, List.set_cons_zero, List.set_cons_succ]
  refine wpAnyH_done (by kernel_rfl) ?_ _
  go_wp2_with (fail)
  refine bodyPost_ret (results_ctc rfl _ _ (w.heap.size + 2) (w.heap.size + 3) 31 46 _ _ (0, 0) (0, 0) _ _ rfl HG3.out.rp Try.underlying31 rfl (by kernel_rfl) rfl HG3.out.rd HU.out rfl (info41 HF.out.len)) rfl ?_
  exact ⟨rfl, HG3.out.bel⟩
set_option maxRecDepth 100000 in
set_option maxHeartbeats 4000000 in
theorem rgate_6n (d : Dk) (cap ini : Int) (c : Cmd) (dv : Value) (w : World) (hf : d.fine) (hs : Wd.Secs w dv c) (hc : (Lit.int .i64 cap).wf = true) (hini : isIn ini) (hchk : c.chk cap = 0) (hk : c.kind = 6) (hm : d.may ini true = false) :
    Calls Try.prog 24 #[.agg d.cells, .int .i64 cap, .int .i64 ini, c.val dv] w (RGPost w (3, 0, true) d) := by
  obtain ⟨fs, hu⟩ := u41
  have HU := Lib.hid hu
  have hX := Gx.start w d c dv
  have CK := Lib.hid (fun W hW => Wd.rcheck_any c dv cap W (hs.below hW) hc)
  have HF := Lib.hid hf
  obtain ⟨A, n0, cp, rfl⟩ : ∃ A n0 cp, dv = .slice A n0 cp := by
    obtain ⟨_, A, cp, h1, _⟩ := hs; exact ⟨A, _, cp, h1⟩
  have HX := Lib.hid hX
  clear hX hu hf hs
  have hcv : c.val (.slice A n0 cp) = .agg #[.int .i64 c.kind, .int .i64 c.lba, .int .i64 c.count, .slice A n0 cp, .int .u64 c.key, .int .i64 c.res, .bool c.keep] := rfl
  rw [hcv]
  clear hcv
  have i0 : ¬ ini < 0 := fun h => by have := hini.1; omega
  have i1 : ¬ 16 ≤ ini := fun h => by have := hini.2; omega
  have hxb : ((c.chk cap : Int) == 0) = true := bT hchk
  have hxn : ((c.chk cap : Int) != 0) = false := nF hchk
  generalize c.chk cap = X at *
  clear hchk hini
  have m2 : ((c.kind : Int) == 2) = false := bF (by omega)
  have m3 : ((c.kind : Int) == 3) = false := bF (by omega)
  have m5 : ((c.kind : Int) == 5) = false := bF (by omega)
  have m6 : ((c.kind : Int) == 6) = true := bT hk
  have m7 : ((c.kind : Int) == 7) = false := bF (by omega)
  have m8 : ((c.kind : Int) == 8) = false := bF (by omega)
  have m9 : ((c.kind : Int) == 9) = false := bF (by omega)
  have m10 : ((c.kind : Int) == 10) = false := bF (by omega)
  have m11 : ((c.kind : Int) == 11) = false := bF (by omega)
  clear hk
  go_enter Try.func24, Try.ntmps24
  go_upto_region 1 with (fail)
  change Code.wp _ _ _ _ ((((w.alloc (.cells d.cells 46)).alloc (.cells (Cmd.arr c (.slice A n0 cp)) 35)).alloc (.cells (rep 0 0) 31)).alloc (.cells Dk.new.cells 46))
  generalize ((((w.alloc (.cells d.cells 46)).alloc (.cells (Cmd.arr c (.slice A n0 cp)) 35)).alloc (.cells (rep 0 0) 31)).alloc (.cells Dk.new.cells 46)) = w1 at *
  have hX1 := HX.out
  have hk0 := HX.out.c0
  go_wp2_with (first
    | (refine wpList_load_row_g rfl 35 _ rfl (w.heap.size + 1) rfl 35 _ (0, 0) _ HX.out.cm Try.underlying35 rfl (by kernel_rfl) ?_))
  refine (CK.out _ HX.out.bel).mono ?_
  rintro e w2 ⟨rfl, hb2⟩
  have HX2 := Lib.hid (HX.out.below hb2)
  clear hb2 HX hX1 hk0
  have ck0 := HX2.out.c0
  have ck4 := HX2.out.c4
  have ck5 := HX2.out.c5
  have ck6 := HX2.out.c6
  have MY := Lib.hid (fun W => rMay_any d ini true W HF.out.len)
  rw [hm] at MY
  go_wp2_with (first
    | (refine wpList_load_row_g rfl 46 _ rfl w.heap.size rfl 46 _ (0, 0) _ HX2.out.dk HU.out rfl (info41 HF.out.len) ?_))
  refine (MY.out _).mono ?_
  rintro e w3 ⟨rfl, hb3⟩
  have HX3 := Lib.hid (HX2.out.below hb3)
  clear hb3 MY HX2 ck0 ck4 ck5 ck6 hm
  go_upto_region 6 with (fail)
  refine wp_region_held_drew (S := fun W => W.heap[w.heap.size]? = some (.cells (d).cells 46 (0, 0))) (by kernel_rfl) HX3.out.dk (fun hS => ?_)
  have HG1 := Lib.hid (HX3.out.below (Below.refl _ _).drew)
  generalize World.drew _ = wr0 at *
  refine wpAnyH_take (i := 0) (v := ?_) rfl (by kernel_rfl) (by kernel_rfl) (by kernel_rfl) (fun _ _ _ h => h) (Or.inl ⟨by rfl, ?_⟩) hS ?_
  rotate_left
  · intro w' hSw; go_simp; try rfl
  try simp only [Act.put, List.getElem_toArray, List.getElem_cons_succ, List.getElem_cons_zero, List.setIfInBounds_toArray, List.set_cons_zero, List.set_cons_succ]
  refine wpAnyH_take (i := 1) (v := .agg (d).cells) rfl (by kernel_rfl) (by kernel_rfl) (by kernel_rfl) (fun _ _ _ h => h) (Or.inl ⟨by rfl, fun w' hSw => ?_⟩) hS ?_
  · exact exec_load_row 46 _ rfl w.heap.size rfl 46 _ (0, 0) _ hSw HU.out rfl (info41 HF.out.len)
  try simp only [Act.put, List.getElem_toArray, List.getElem_cons_succ, List.getElem_cons_zero, List.setIfInBounds_toArray, List.set_cons_zero, List.set_cons_succ]
  refine wpAnyH_ready (rs := [2]) (by kernel_rfl) (by simp) ?_
  refine AllReadyH.cons rfl (fun K hK => ?_) AllReadyH.nil
  rw [if_pos (by rfl)]
  refine wp_store_row 31 _ _ rfl (w.heap.size + 2) (rep 3 0) rfl rfl 31 _ HG1.out.rp (by kernel_rfl) rfl (rep_one _ _) ?_
  have HG2 := Lib.hid (HG1.out.setRp (rep 3 0))
  refine hK.out _ _ HG2.out.dk (fun hS => ?_)
  clear hK K HG1
  try simp only [Act.put, List.getElem_toArray, List.getElem_cons_succ, List.getElem_cons_zero, List.setIfInBounds_toArray, List.set_cons_zero, List.set_cons_succ]
  generalize World.setRow _ _ _ = wr1 at *
  refine wpAnyH_take (i := 3) (v := ?_) rfl (by kernel_rfl) (by kernel_rfl) (by kernel_rfl) (fun _ _ _ h => h) (Or.inl ⟨by rfl, ?_⟩) hS ?_
  rotate_left
  · intro w' hSw; go_simp; try rfl
  try simp only [Act.put, List.getElem_toArray, List.getElem_cons_succ, List.getElem_cons_zero, List.setIfInBounds_toArray, List.set_cons_zero, List.set_cons_succ]
  refine wpAnyH_ready (rs := [4]) (by kernel_rfl) (by simp) ?_
  refine AllReadyH.cons rfl (fun K hK => ?_) AllReadyH.nil
  rw [if_pos (by rfl)]
  refine wp_store_row 46 _ _ rfl (w.heap.size + 3) (d).cells rfl rfl 46 _ HG2.out.rd (info41 HF.out.len) (by rw [cells_size HF.out.len]; rfl) (one41 _) ?_
  have HG3 := Lib.hid (HG2.out.setRd (d))
  refine hK.out _ _ HG3.out.dk (fun hS => ?_)
  clear hK K HG2
  try simp only [Act.put, List.getElem_toArray, List.getElem_cons_succ, List.getElem_cons_zero, List.setIfInBounds_toArray, List.set_cons_zero, List.set_cons_succ]
  refine wpAnyH_done (by kernel_rfl) ?_ _
  go_wp2_with (fail)
  refine bodyPost_ret (results_ctc rfl _ _ (w.heap.size + 2) (w.heap.size + 3) 31 46 _ _ (0, 0) (0, 0) _ _ rfl HG3.out.rp Try.underlying31 rfl (by kernel_rfl) rfl HG3.out.rd HU.out rfl (info41 HF.out.len)) rfl ?_
  exact ⟨rfl, HG3.out.bel⟩
set_option maxRecDepth 100000 in
set_option maxHeartbeats 4000000 in
theorem rgate_7 (d : Dk) (cap ini : Int) (c : Cmd) (dv : Value) (w : World) (hf : d.fine) (hs : Wd.Secs w dv c) (hc : (Lit.int .i64 cap).wf = true) (hini : isIn ini) (hchk : c.chk cap = 0) (hk : c.kind = 7) (s : Int × Int × Bool) (hst : s = if d.regE ini = 0 then (1, 0, true) else (3, 0, true)) :
    Calls Try.prog 24 #[.agg d.cells, .int .i64 cap, .int .i64 ini, c.val dv] w (RGPost w s (d.reg ini c.key c.keep)) := by
  obtain ⟨fs, hu⟩ := u41
  have HU := Lib.hid hu
  have hX := Gx.start w d c dv
  have CK := Lib.hid (fun W hW => Wd.rcheck_any c dv cap W (hs.below hW) hc)
  have HF := Lib.hid hf
  obtain ⟨A, n0, cp, rfl⟩ : ∃ A n0 cp, dv = .slice A n0 cp := by
    obtain ⟨_, A, cp, h1, _⟩ := hs; exact ⟨A, _, cp, h1⟩
  have HX := Lib.hid hX
  clear hX hu hf hs
  have hcv : c.val (.slice A n0 cp) = .agg #[.int .i64 c.kind, .int .i64 c.lba, .int .i64 c.count, .slice A n0 cp, .int .u64 c.key, .int .i64 c.res, .bool c.keep] := rfl
  rw [hcv]
  clear hcv
  have i0 : ¬ ini < 0 := fun h => by have := hini.1; omega
  have i1 : ¬ 16 ≤ ini := fun h => by have := hini.2; omega
  have hxb : ((c.chk cap : Int) == 0) = true := bT hchk
  have hxn : ((c.chk cap : Int) != 0) = false := nF hchk
  generalize c.chk cap = X at *
  clear hchk hini
  have HST := Lib.hid hst
  clear hst
  have m2 : ((c.kind : Int) == 2) = false := bF (by omega)
  have m3 : ((c.kind : Int) == 3) = false := bF (by omega)
  have m5 : ((c.kind : Int) == 5) = false := bF (by omega)
  have m6 : ((c.kind : Int) == 6) = false := bF (by omega)
  have m7 : ((c.kind : Int) == 7) = true := bT hk
  have m8 : ((c.kind : Int) == 8) = false := bF (by omega)
  have m9 : ((c.kind : Int) == 9) = false := bF (by omega)
  have m10 : ((c.kind : Int) == 10) = false := bF (by omega)
  have m11 : ((c.kind : Int) == 11) = false := bF (by omega)
  clear hk
  go_enter Try.func24, Try.ntmps24
  go_upto_region 1 with (fail)
  change Code.wp _ _ _ _ ((((w.alloc (.cells d.cells 46)).alloc (.cells (Cmd.arr c (.slice A n0 cp)) 35)).alloc (.cells (rep 0 0) 31)).alloc (.cells Dk.new.cells 46))
  generalize ((((w.alloc (.cells d.cells 46)).alloc (.cells (Cmd.arr c (.slice A n0 cp)) 35)).alloc (.cells (rep 0 0) 31)).alloc (.cells Dk.new.cells 46)) = w1 at *
  have hX1 := HX.out
  have hk0 := HX.out.c0
  go_wp2_with (first
    | (refine wpList_load_row_g rfl 35 _ rfl (w.heap.size + 1) rfl 35 _ (0, 0) _ HX.out.cm Try.underlying35 rfl (by kernel_rfl) ?_))
  refine (CK.out _ HX.out.bel).mono ?_
  rintro e w2 ⟨rfl, hb2⟩
  have HX2 := Lib.hid (HX.out.below hb2)
  clear hb2 HX hX1 hk0
  have ck0 := HX2.out.c0
  have ck4 := HX2.out.c4
  have ck5 := HX2.out.c5
  have ck6 := HX2.out.c6
  have MY := Lib.hid (fun W => rRegister_any d ini c.key c.keep W HF.out.len)
  have HF2 : Hid (Dk.fine (d.reg ini c.key c.keep)) := Lib.hid (fine_reg HF.out _ _ _)
  have hsz : d.cells.size = (d.reg ini c.key c.keep).cells.size := by rw [cells_size HF.out.len, cells_size HF2.out.len]
  generalize d.regE ini = er at *
  generalize d.reg ini c.key c.keep = d2 at *
  go_wp2_with (first
    | (refine wpList_load_row_g rfl 46 _ rfl w.heap.size rfl 46 _ (0, 0) _ HX2.out.dk HU.out rfl (info41 HF.out.len) ?_))
  refine (MY.out _).mono ?_
  rintro e w3 ⟨rfl, hb3⟩
  have HX3 := Lib.hid (HX2.out.below hb3)
  clear hb3 MY HX2 ck0 ck4 ck5 ck6
  go_upto_region 21 with (first
    | (refine wpList_store_row rfl 46 _ _ rfl w.heap.size d2.cells rfl rfl 46 _ HX3.out.dk (info41 HF2.out.len) hsz (one41 _) ?_))
  have HX4 := Lib.hid (HX3.out.setDk d2)
  clear HX3 hsz
  generalize World.setRow _ _ _ = w4 at *
  try simp only [Act.put]
  by_cases hz : er = 0
  · subst hz
    obtain rfl : s = (1, 0, true) := HST.out.trans (if_pos rfl)
    go_upto_region 23 with (fail)
    refine wp_region_held_drew (S := fun W => W.heap[w.heap.size]? = some (.cells (d2).cells 46 (0, 0))) (by kernel_rfl) HX4.out.dk (fun hS => ?_)
    have HG1 := Lib.hid (HX4.out.below (Below.refl _ _).drew)
    generalize World.drew _ = wr0 at *
    refine wpAnyH_take (i := 0) (v := ?_) rfl (by kernel_rfl) (by kernel_rfl) (by kernel_rfl) (fun _ _ _ h => h) (Or.inl ⟨by rfl, ?_⟩) hS ?_
    rotate_left
    · intro w' hSw; go_simp; try rfl
    try simp only [Act.put, List.getElem_toArray, List.getElem_cons_succ, List.getElem_cons_zero, List.setIfInBounds_toArray, List.set_cons_zero, List.set_cons_succ]
    refine wpAnyH_take (i := 1) (v := .agg (d2).cells) rfl (by kernel_rfl) (by kernel_rfl) (by kernel_rfl) (fun _ _ _ h => h) (Or.inl ⟨by rfl, fun w' hSw => ?_⟩) hS ?_
    · exact exec_load_row 46 _ rfl w.heap.size rfl 46 _ (0, 0) _ hSw HU.out rfl (info41 HF2.out.len)
    try simp only [Act.put, List.getElem_toArray, List.getElem_cons_succ, List.getElem_cons_zero, List.setIfInBounds_toArray, List.set_cons_zero, List.set_cons_succ]
    refine wpAnyH_ready (rs := [2]) (by kernel_rfl) (by simp) ?_
    refine AllReadyH.cons rfl (fun K hK => ?_) AllReadyH.nil
    rw [if_pos (by rfl)]
    refine wp_store_row 31 _ _ rfl (w.heap.size + 2) (rep 1 0) rfl rfl 31 _ HG1.out.rp (by kernel_rfl) rfl (rep_one _ _) ?_
    have HG2 := Lib.hid (HG1.out.setRp (rep 1 0))
    refine hK.out _ _ HG2.out.dk (fun hS => ?_)
    clear hK K HG1
    try simp only [Act.put, List.getElem_toArray, List.getElem_cons_succ, List.getElem_cons_zero, List.setIfInBounds_toArray, List.set_cons_zero, List.set_cons_succ]
    generalize World.setRow _ _ _ = wr1 at *
    refine wpAnyH_take (i := 3) (v := ?_) rfl (by kernel_rfl) (by kernel_rfl) (by kernel_rfl) (fun _ _ _ h => h) (Or.inl ⟨by rfl, ?_⟩) hS ?_
    rotate_left
    · intro w' hSw; go_simp; try rfl
    try simp only [Act.put, List.getElem_toArray, List.getElem_cons_succ, List.getElem_cons_zero, List.setIfInBounds_toArray, List.set_cons_zero, List.set_cons_succ]
    refine wpAnyH_ready (rs := [4]) (by kernel_rfl) (by simp) ?_
    refine AllReadyH.cons rfl (fun K hK => ?_) AllReadyH.nil
    rw [if_pos (by rfl)]
    refine wp_store_row 46 _ _ rfl (w.heap.size + 3) (d2).cells rfl rfl 46 _ HG2.out.rd (info41 HF2.out.len) (by rw [cells_size HF2.out.len]; rfl) (one41 _) ?_
    have HG3 := Lib.hid (HG2.out.setRd (d2))
    refine hK.out _ _ HG3.out.dk (fun hS => ?_)
    clear hK K HG2
    try simp only [Act.put, List.getElem_toArray, List.getElem_cons_succ, List.getElem_cons_zero, List.setIfInBounds_toArray, List.set_cons_zero, List.set_cons_succ]
    refine wpAnyH_done (by kernel_rfl) ?_ _
    go_wp2_with (fail)
    refine bodyPost_ret (results_ctc rfl _ _ (w.heap.size + 2) (w.heap.size + 3) 31 46 _ _ (0, 0) (0, 0) _ _ rfl HG3.out.rp Try.underlying31 rfl (by kernel_rfl) rfl HG3.out.rd HU.out rfl (info41 HF2.out.len)) rfl ?_
    exact ⟨rfl, HG3.out.bel⟩
  · obtain rfl : s = (3, 0, true) := HST.out.trans (if_neg hz)
    have hzb : ((er : Int) == 0) = false := bF hz
    have hzn : ((er : Int) != 0) = true := nT hz
    clear hz
    go_upto_region 22 with (fail)
    refine wp_region_held_drew (S := fun W => W.heap[w.heap.size]? = some (.cells (d2).cells 46 (0, 0))) (by kernel_rfl) HX4.out.dk (fun hS => ?_)
    have HG1 := Lib.hid (HX4.out.below (Below.refl _ _).drew)
    generalize World.drew _ = wr0 at *
    refine wpAnyH_take (i := 0) (v := ?_) rfl (by kernel_rfl) (by kernel_rfl) (by kernel_rfl) (fun _ _ _ h => h) (Or.inl ⟨by rfl, ?_⟩) hS ?_
    rotate_left
    · intro w' hSw; go_simp; try rfl
    try simp only [Act.put, List.getElem_toArray, List.getElem_cons_succ, List.getElem_cons_zero, List.setIfInBounds_toArray, List.set_cons_zero, List.set_cons_succ]
    refine wpAnyH_take (i := 1) (v := .agg (d2).cells) rfl (by kernel_rfl) (by kernel_rfl) (by kernel_rfl) (fun _ _ _ h => h) (Or.inl ⟨by rfl, fun w' hSw => ?_⟩) hS ?_
    · exact exec_load_row 46 _ rfl w.heap.size rfl 46 _ (0, 0) _ hSw HU.out rfl (info41 HF2.out.len)
    try simp only [Act.put, List.getElem_toArray, List.getElem_cons_succ, List.getElem_cons_zero, List.setIfInBounds_toArray, List.set_cons_zero, List.set_cons_succ]
    refine wpAnyH_ready (rs := [2]) (by kernel_rfl) (by simp) ?_
    refine AllReadyH.cons rfl (fun K hK => ?_) AllReadyH.nil
    rw [if_pos (by rfl)]
    refine wp_store_row 31 _ _ rfl (w.heap.size + 2) (rep 3 0) rfl rfl 31 _ HG1.out.rp (by kernel_rfl) rfl (rep_one _ _) ?_
    have HG2 := Lib.hid (HG1.out.setRp (rep 3 0))
    refine hK.out _ _ HG2.out.dk (fun hS => ?_)
    clear hK K HG1
    try simp only [Act.put, List.getElem_toArray, List.getElem_cons_succ, List.getElem_cons_zero, List.setIfInBounds_toArray, List.set_cons_zero, List.set_cons_succ]
    generalize World.setRow _ _ _ = wr1 at *
    refine wpAnyH_take (i := 3) (v := ?_) rfl (by kernel_rfl) (by kernel_rfl) (by kernel_rfl) (fun _ _ _ h => h) (Or.inl ⟨by rfl, ?_⟩) hS ?_
    rotate_left
    · intro w' hSw; go_simp; try rfl
    try simp only [Act.put, List.getElem_toArray, List.getElem_cons_succ, List.getElem_cons_zero, List.setIfInBounds_toArray, List.set_cons_zero, List.set_cons_succ]
    refine wpAnyH_ready (rs := [4]) (by kernel_rfl) (by simp) ?_
    refine AllReadyH.cons rfl (fun K hK => ?_) AllReadyH.nil
    rw [if_pos (by rfl)]
    refine wp_store_row 46 _ _ rfl (w.heap.size + 3) (d2).cells rfl rfl 46 _ HG2.out.rd (info41 HF2.out.len) (by rw [cells_size HF2.out.len]; rfl) (one41 _) ?_
    have HG3 := Lib.hid (HG2.out.setRd (d2))
    refine hK.out _ _ HG3.out.dk (fun hS => ?_)
    clear hK K HG2
    try simp only [Act.put, List.getElem_toArray, List.getElem_cons_succ, List.getElem_cons_zero, List.setIfInBounds_toArray, List.set_cons_zero, List.set_cons_succ]
    refine wpAnyH_done (by kernel_rfl) ?_ _
    go_wp2_with (fail)
    refine bodyPost_ret (results_ctc rfl _ _ (w.heap.size + 2) (w.heap.size + 3) 31 46 _ _ (0, 0) (0, 0) _ _ rfl HG3.out.rp Try.underlying31 rfl (by kernel_rfl) rfl HG3.out.rd HU.out rfl (info41 HF2.out.len)) rfl ?_
    exact ⟨rfl, HG3.out.bel⟩
set_option maxRecDepth 100000 in
set_option maxHeartbeats 4000000 in
theorem rgate_8 (d : Dk) (cap ini : Int) (c : Cmd) (dv : Value) (w : World) (hf : d.fine) (hs : Wd.Secs w dv c) (hc : (Lit.int .i64 cap).wf = true) (hini : isIn ini) (hchk : c.chk cap = 0) (hk : c.kind = 8) (s : Int × Int × Bool) (hst : s = if d.resE ini c.res = 0 then (1, 0, true) else (3, 0, true)) :
    Calls Try.prog 24 #[.agg d.cells, .int .i64 cap, .int .i64 ini, c.val dv] w (RGPost w s (d.res ini c.res)) := by
  obtain ⟨fs, hu⟩ := u41
  have HU := Lib.hid hu
  have hX := Gx.start w d c dv
  have CK := Lib.hid (fun W hW => Wd.rcheck_any c dv cap W (hs.below hW) hc)
  have HF := Lib.hid hf
  obtain ⟨A, n0, cp, rfl⟩ : ∃ A n0 cp, dv = .slice A n0 cp := by
    obtain ⟨_, A, cp, h1, _⟩ := hs; exact ⟨A, _, cp, h1⟩
  have HX := Lib.hid hX
  clear hX hu hf hs
  have hcv : c.val (.slice A n0 cp) = .agg #[.int .i64 c.kind, .int .i64 c.lba, .int .i64 c.count, .slice A n0 cp, .int .u64 c.key, .int .i64 c.res, .bool c.keep] := rfl
  rw [hcv]
  clear hcv
  have i0 : ¬ ini < 0 := fun h => by have := hini.1; omega
  have i1 : ¬ 16 ≤ ini := fun h => by have := hini.2; omega
  have hxb : ((c.chk cap : Int) == 0) = true := bT hchk
  have hxn : ((c.chk cap : Int) != 0) = false := nF hchk
  generalize c.chk cap = X at *
  clear hchk hini
  have HST := Lib.hid hst
  clear hst
  have m2 : ((c.kind : Int) == 2) = false := bF (by omega)
  have m3 : ((c.kind : Int) == 3) = false := bF (by omega)
  have m5 : ((c.kind : Int) == 5) = false := bF (by omega)
  have m6 : ((c.kind : Int) == 6) = false := bF (by omega)
  have m7 : ((c.kind : Int) == 7) = false := bF (by omega)
  have m8 : ((c.kind : Int) == 8) = true := bT hk
  have m9 : ((c.kind : Int) == 9) = false := bF (by omega)
  have m10 : ((c.kind : Int) == 10) = false := bF (by omega)
  have m11 : ((c.kind : Int) == 11) = false := bF (by omega)
  clear hk
  go_enter Try.func24, Try.ntmps24
  go_upto_region 1 with (fail)
  change Code.wp _ _ _ _ ((((w.alloc (.cells d.cells 46)).alloc (.cells (Cmd.arr c (.slice A n0 cp)) 35)).alloc (.cells (rep 0 0) 31)).alloc (.cells Dk.new.cells 46))
  generalize ((((w.alloc (.cells d.cells 46)).alloc (.cells (Cmd.arr c (.slice A n0 cp)) 35)).alloc (.cells (rep 0 0) 31)).alloc (.cells Dk.new.cells 46)) = w1 at *
  have hX1 := HX.out
  have hk0 := HX.out.c0
  go_wp2_with (first
    | (refine wpList_load_row_g rfl 35 _ rfl (w.heap.size + 1) rfl 35 _ (0, 0) _ HX.out.cm Try.underlying35 rfl (by kernel_rfl) ?_))
  refine (CK.out _ HX.out.bel).mono ?_
  rintro e w2 ⟨rfl, hb2⟩
  have HX2 := Lib.hid (HX.out.below hb2)
  clear hb2 HX hX1 hk0
  have ck0 := HX2.out.c0
  have ck4 := HX2.out.c4
  have ck5 := HX2.out.c5
  have ck6 := HX2.out.c6
  have MY := Lib.hid (fun W => rReserve_any d ini c.res W HF.out.len)
  have HF2 : Hid (Dk.fine (d.res ini c.res)) := Lib.hid (fine_res HF.out _ _)
  have hsz : d.cells.size = (d.res ini c.res).cells.size := by rw [cells_size HF.out.len, cells_size HF2.out.len]
  generalize d.resE ini c.res = er at *
  generalize d.res ini c.res = d2 at *
  go_wp2_with (first
    | (refine wpList_load_row_g rfl 46 _ rfl w.heap.size rfl 46 _ (0, 0) _ HX2.out.dk HU.out rfl (info41 HF.out.len) ?_))
  refine (MY.out _).mono ?_
  rintro e w3 ⟨rfl, hb3⟩
  have HX3 := Lib.hid (HX2.out.below hb3)
  clear hb3 MY HX2 ck0 ck4 ck5 ck6
  go_upto_region 21 with (first
    | (refine wpList_store_row rfl 46 _ _ rfl w.heap.size d2.cells rfl rfl 46 _ HX3.out.dk (info41 HF2.out.len) hsz (one41 _) ?_))
  have HX4 := Lib.hid (HX3.out.setDk d2)
  clear HX3 hsz
  generalize World.setRow _ _ _ = w4 at *
  try simp only [Act.put]
  by_cases hz : er = 0
  · subst hz
    obtain rfl : s = (1, 0, true) := HST.out.trans (if_pos rfl)
    go_upto_region 23 with (fail)
    refine wp_region_held_drew (S := fun W => W.heap[w.heap.size]? = some (.cells (d2).cells 46 (0, 0))) (by kernel_rfl) HX4.out.dk (fun hS => ?_)
    have HG1 := Lib.hid (HX4.out.below (Below.refl _ _).drew)
    generalize World.drew _ = wr0 at *
    refine wpAnyH_take (i := 0) (v := ?_) rfl (by kernel_rfl) (by kernel_rfl) (by kernel_rfl) (fun _ _ _ h => h) (Or.inl ⟨by rfl, ?_⟩) hS ?_
    rotate_left
    · intro w' hSw; go_simp; try rfl
    try simp only [Act.put, List.getElem_toArray, List.getElem_cons_succ, List.getElem_cons_zero, List.setIfInBounds_toArray, List.set_cons_zero, List.set_cons_succ]
    refine wpAnyH_take (i := 1) (v := .agg (d2).cells) rfl (by kernel_rfl) (by kernel_rfl) (by kernel_rfl) (fun _ _ _ h => h) (Or.inl ⟨by rfl, fun w' hSw => ?_⟩) hS ?_
    · exact exec_load_row 46 _ rfl w.heap.size rfl 46 _ (0, 0) _ hSw HU.out rfl (info41 HF2.out.len)
    try simp only [Act.put, List.getElem_toArray, List.getElem_cons_succ, List.getElem_cons_zero, List.setIfInBounds_toArray, List.set_cons_zero, List.set_cons_succ]
    refine wpAnyH_ready (rs := [2]) (by kernel_rfl) (by simp) ?_
    refine AllReadyH.cons rfl (fun K hK => ?_) AllReadyH.nil
    rw [if_pos (by rfl)]
    refine wp_store_row 31 _ _ rfl (w.heap.size + 2) (rep 1 0) rfl rfl 31 _ HG1.out.rp (by kernel_rfl) rfl (rep_one _ _) ?_
    have HG2 := Lib.hid (HG1.out.setRp (rep 1 0))
    refine hK.out _ _ HG2.out.dk (fun hS => ?_)
    clear hK K HG1
    try simp only [Act.put, List.getElem_toArray, List.getElem_cons_succ, List.getElem_cons_zero, List.setIfInBounds_toArray, List.set_cons_zero, List.set_cons_succ]
    generalize World.setRow _ _ _ = wr1 at *
    refine wpAnyH_take (i := 3) (v := ?_) rfl (by kernel_rfl) (by kernel_rfl) (by kernel_rfl) (fun _ _ _ h => h) (Or.inl ⟨by rfl, ?_⟩) hS ?_
    rotate_left
    · intro w' hSw; go_simp; try rfl
    try simp only [Act.put, List.getElem_toArray, List.getElem_cons_succ, List.getElem_cons_zero, List.setIfInBounds_toArray, List.set_cons_zero, List.set_cons_succ]
    refine wpAnyH_ready (rs := [4]) (by kernel_rfl) (by simp) ?_
    refine AllReadyH.cons rfl (fun K hK => ?_) AllReadyH.nil
    rw [if_pos (by rfl)]
    refine wp_store_row 46 _ _ rfl (w.heap.size + 3) (d2).cells rfl rfl 46 _ HG2.out.rd (info41 HF2.out.len) (by rw [cells_size HF2.out.len]; rfl) (one41 _) ?_
    have HG3 := Lib.hid (HG2.out.setRd (d2))
    refine hK.out _ _ HG3.out.dk (fun hS => ?_)
    clear hK K HG2
    try simp only [Act.put, List.getElem_toArray, List.getElem_cons_succ, List.getElem_cons_zero, List.setIfInBounds_toArray, List.set_cons_zero, List.set_cons_succ]
    refine wpAnyH_done (by kernel_rfl) ?_ _
    go_wp2_with (fail)
    refine bodyPost_ret (results_ctc rfl _ _ (w.heap.size + 2) (w.heap.size + 3) 31 46 _ _ (0, 0) (0, 0) _ _ rfl HG3.out.rp Try.underlying31 rfl (by kernel_rfl) rfl HG3.out.rd HU.out rfl (info41 HF2.out.len)) rfl ?_
    exact ⟨rfl, HG3.out.bel⟩
  · obtain rfl : s = (3, 0, true) := HST.out.trans (if_neg hz)
    have hzb : ((er : Int) == 0) = false := bF hz
    have hzn : ((er : Int) != 0) = true := nT hz
    clear hz
    go_upto_region 22 with (fail)
    refine wp_region_held_drew (S := fun W => W.heap[w.heap.size]? = some (.cells (d2).cells 46 (0, 0))) (by kernel_rfl) HX4.out.dk (fun hS => ?_)
    have HG1 := Lib.hid (HX4.out.below (Below.refl _ _).drew)
    generalize World.drew _ = wr0 at *
    refine wpAnyH_take (i := 0) (v := ?_) rfl (by kernel_rfl) (by kernel_rfl) (by kernel_rfl) (fun _ _ _ h => h) (Or.inl ⟨by rfl, ?_⟩) hS ?_
    rotate_left
    · intro w' hSw; go_simp; try rfl
    try simp only [Act.put, List.getElem_toArray, List.getElem_cons_succ, List.getElem_cons_zero, List.setIfInBounds_toArray, List.set_cons_zero, List.set_cons_succ]
    refine wpAnyH_take (i := 1) (v := .agg (d2).cells) rfl (by kernel_rfl) (by kernel_rfl) (by kernel_rfl) (fun _ _ _ h => h) (Or.inl ⟨by rfl, fun w' hSw => ?_⟩) hS ?_
    · exact exec_load_row 46 _ rfl w.heap.size rfl 46 _ (0, 0) _ hSw HU.out rfl (info41 HF2.out.len)
    try simp only [Act.put, List.getElem_toArray, List.getElem_cons_succ, List.getElem_cons_zero, List.setIfInBounds_toArray, List.set_cons_zero, List.set_cons_succ]
    refine wpAnyH_ready (rs := [2]) (by kernel_rfl) (by simp) ?_
    refine AllReadyH.cons rfl (fun K hK => ?_) AllReadyH.nil
    rw [if_pos (by rfl)]
    refine wp_store_row 31 _ _ rfl (w.heap.size + 2) (rep 3 0) rfl rfl 31 _ HG1.out.rp (by kernel_rfl) rfl (rep_one _ _) ?_
    have HG2 := Lib.hid (HG1.out.setRp (rep 3 0))
    refine hK.out _ _ HG2.out.dk (fun hS => ?_)
    clear hK K HG1
    try simp only [Act.put, List.getElem_toArray, List.getElem_cons_succ, List.getElem_cons_zero, List.setIfInBounds_toArray, List.set_cons_zero, List.set_cons_succ]
    generalize World.setRow _ _ _ = wr1 at *
    refine wpAnyH_take (i := 3) (v := ?_) rfl (by kernel_rfl) (by kernel_rfl) (by kernel_rfl) (fun _ _ _ h => h) (Or.inl ⟨by rfl, ?_⟩) hS ?_
    rotate_left
    · intro w' hSw; go_simp; try rfl
    try simp only [Act.put, List.getElem_toArray, List.getElem_cons_succ, List.getElem_cons_zero, List.setIfInBounds_toArray, List.set_cons_zero, List.set_cons_succ]
    refine wpAnyH_ready (rs := [4]) (by kernel_rfl) (by simp) ?_
    refine AllReadyH.cons rfl (fun K hK => ?_) AllReadyH.nil
    rw [if_pos (by rfl)]
    refine wp_store_row 46 _ _ rfl (w.heap.size + 3) (d2).cells rfl rfl 46 _ HG2.out.rd (info41 HF2.out.len) (by rw [cells_size HF2.out.len]; rfl) (one41 _) ?_
    have HG3 := Lib.hid (HG2.out.setRd (d2))
    refine hK.out _ _ HG3.out.dk (fun hS => ?_)
    clear hK K HG2
    try simp only [Act.put, List.getElem_toArray, List.getElem_cons_succ, List.getElem_cons_zero, List.setIfInBounds_toArray, List.set_cons_zero, List.set_cons_succ]
    refine wpAnyH_done (by kernel_rfl) ?_ _
    go_wp2_with (fail)
    refine bodyPost_ret (results_ctc rfl _ _ (w.heap.size + 2) (w.heap.size + 3) 31 46 _ _ (0, 0) (0, 0) _ _ rfl HG3.out.rp Try.underlying31 rfl (by kernel_rfl) rfl HG3.out.rd HU.out rfl (info41 HF2.out.len)) rfl ?_
    exact ⟨rfl, HG3.out.bel⟩
set_option maxRecDepth 100000 in
set_option maxHeartbeats 4000000 in
theorem rgate_9 (d : Dk) (cap ini : Int) (c : Cmd) (dv : Value) (w : World) (hf : d.fine) (hs : Wd.Secs w dv c) (hc : (Lit.int .i64 cap).wf = true) (hini : isIn ini) (hchk : c.chk cap = 0) (hk : c.kind = 9) (s : Int × Int × Bool) (hst : s = if d.relE ini = 0 then (1, 0, true) else (3, 0, true)) :
    Calls Try.prog 24 #[.agg d.cells, .int .i64 cap, .int .i64 ini, c.val dv] w (RGPost w s (d.rel ini)) := by
  obtain ⟨fs, hu⟩ := u41
  have HU := Lib.hid hu
  have hX := Gx.start w d c dv
  have CK := Lib.hid (fun W hW => Wd.rcheck_any c dv cap W (hs.below hW) hc)
  have HF := Lib.hid hf
  obtain ⟨A, n0, cp, rfl⟩ : ∃ A n0 cp, dv = .slice A n0 cp := by
    obtain ⟨_, A, cp, h1, _⟩ := hs; exact ⟨A, _, cp, h1⟩
  have HX := Lib.hid hX
  clear hX hu hf hs
  have hcv : c.val (.slice A n0 cp) = .agg #[.int .i64 c.kind, .int .i64 c.lba, .int .i64 c.count, .slice A n0 cp, .int .u64 c.key, .int .i64 c.res, .bool c.keep] := rfl
  rw [hcv]
  clear hcv
  have i0 : ¬ ini < 0 := fun h => by have := hini.1; omega
  have i1 : ¬ 16 ≤ ini := fun h => by have := hini.2; omega
  have hxb : ((c.chk cap : Int) == 0) = true := bT hchk
  have hxn : ((c.chk cap : Int) != 0) = false := nF hchk
  generalize c.chk cap = X at *
  clear hchk hini
  have HST := Lib.hid hst
  clear hst
  have m2 : ((c.kind : Int) == 2) = false := bF (by omega)
  have m3 : ((c.kind : Int) == 3) = false := bF (by omega)
  have m5 : ((c.kind : Int) == 5) = false := bF (by omega)
  have m6 : ((c.kind : Int) == 6) = false := bF (by omega)
  have m7 : ((c.kind : Int) == 7) = false := bF (by omega)
  have m8 : ((c.kind : Int) == 8) = false := bF (by omega)
  have m9 : ((c.kind : Int) == 9) = true := bT hk
  have m10 : ((c.kind : Int) == 10) = false := bF (by omega)
  have m11 : ((c.kind : Int) == 11) = false := bF (by omega)
  clear hk
  go_enter Try.func24, Try.ntmps24
  go_upto_region 1 with (fail)
  change Code.wp _ _ _ _ ((((w.alloc (.cells d.cells 46)).alloc (.cells (Cmd.arr c (.slice A n0 cp)) 35)).alloc (.cells (rep 0 0) 31)).alloc (.cells Dk.new.cells 46))
  generalize ((((w.alloc (.cells d.cells 46)).alloc (.cells (Cmd.arr c (.slice A n0 cp)) 35)).alloc (.cells (rep 0 0) 31)).alloc (.cells Dk.new.cells 46)) = w1 at *
  have hX1 := HX.out
  have hk0 := HX.out.c0
  go_wp2_with (first
    | (refine wpList_load_row_g rfl 35 _ rfl (w.heap.size + 1) rfl 35 _ (0, 0) _ HX.out.cm Try.underlying35 rfl (by kernel_rfl) ?_))
  refine (CK.out _ HX.out.bel).mono ?_
  rintro e w2 ⟨rfl, hb2⟩
  have HX2 := Lib.hid (HX.out.below hb2)
  clear hb2 HX hX1 hk0
  have ck0 := HX2.out.c0
  have ck4 := HX2.out.c4
  have ck5 := HX2.out.c5
  have ck6 := HX2.out.c6
  have MY := Lib.hid (fun W => rRelease_any d ini W HF.out.len)
  have HF2 : Hid (Dk.fine (d.rel ini)) := Lib.hid (fine_rel HF.out _)
  have hsz : d.cells.size = (d.rel ini).cells.size := by rw [cells_size HF.out.len, cells_size HF2.out.len]
  generalize d.relE ini = er at *
  generalize d.rel ini = d2 at *
  go_wp2_with (first
    | (refine wpList_load_row_g rfl 46 _ rfl w.heap.size rfl 46 _ (0, 0) _ HX2.out.dk HU.out rfl (info41 HF.out.len) ?_))
  refine (MY.out _).mono ?_
  rintro e w3 ⟨rfl, hb3⟩
  have HX3 := Lib.hid (HX2.out.below hb3)
  clear hb3 MY HX2 ck0 ck4 ck5 ck6
  go_upto_region 21 with (first
    | (refine wpList_store_row rfl 46 _ _ rfl w.heap.size d2.cells rfl rfl 46 _ HX3.out.dk (info41 HF2.out.len) hsz (one41 _) ?_))
  have HX4 := Lib.hid (HX3.out.setDk d2)
  clear HX3 hsz
  generalize World.setRow _ _ _ = w4 at *
  try simp only [Act.put]
  by_cases hz : er = 0
  · subst hz
    obtain rfl : s = (1, 0, true) := HST.out.trans (if_pos rfl)
    go_upto_region 23 with (fail)
    refine wp_region_held_drew (S := fun W => W.heap[w.heap.size]? = some (.cells (d2).cells 46 (0, 0))) (by kernel_rfl) HX4.out.dk (fun hS => ?_)
    have HG1 := Lib.hid (HX4.out.below (Below.refl _ _).drew)
    generalize World.drew _ = wr0 at *
    refine wpAnyH_take (i := 0) (v := ?_) rfl (by kernel_rfl) (by kernel_rfl) (by kernel_rfl) (fun _ _ _ h => h) (Or.inl ⟨by rfl, ?_⟩) hS ?_
    rotate_left
    · intro w' hSw; go_simp; try rfl
    try simp only [Act.put, List.getElem_toArray, List.getElem_cons_succ, List.getElem_cons_zero, List.setIfInBounds_toArray, List.set_cons_zero, List.set_cons_succ]
    refine wpAnyH_take (i := 1) (v := .agg (d2).cells) rfl (by kernel_rfl) (by kernel_rfl) (by kernel_rfl) (fun _ _ _ h => h) (Or.inl ⟨by rfl, fun w' hSw => ?_⟩) hS ?_
    · exact exec_load_row 46 _ rfl w.heap.size rfl 46 _ (0, 0) _ hSw HU.out rfl (info41 HF2.out.len)
    try simp only [Act.put, List.getElem_toArray, List.getElem_cons_succ, List.getElem_cons_zero, List.setIfInBounds_toArray, List.set_cons_zero, List.set_cons_succ]
    refine wpAnyH_ready (rs := [2]) (by kernel_rfl) (by simp) ?_
    refine AllReadyH.cons rfl (fun K hK => ?_) AllReadyH.nil
    rw [if_pos (by rfl)]
    refine wp_store_row 31 _ _ rfl (w.heap.size + 2) (rep 1 0) rfl rfl 31 _ HG1.out.rp (by kernel_rfl) rfl (rep_one _ _) ?_
    have HG2 := Lib.hid (HG1.out.setRp (rep 1 0))
    refine hK.out _ _ HG2.out.dk (fun hS => ?_)
    clear hK K HG1
    try simp only [Act.put, List.getElem_toArray, List.getElem_cons_succ, List.getElem_cons_zero, List.setIfInBounds_toArray, List.set_cons_zero, List.set_cons_succ]
    generalize World.setRow _ _ _ = wr1 at *
    refine wpAnyH_take (i := 3) (v := ?_) rfl (by kernel_rfl) (by kernel_rfl) (by kernel_rfl) (fun _ _ _ h => h) (Or.inl ⟨by rfl, ?_⟩) hS ?_
    rotate_left
    · intro w' hSw; go_simp; try rfl
    try simp only [Act.put, List.getElem_toArray, List.getElem_cons_succ, List.getElem_cons_zero, List.setIfInBounds_toArray, List.set_cons_zero, List.set_cons_succ]
    refine wpAnyH_ready (rs := [4]) (by kernel_rfl) (by simp) ?_
    refine AllReadyH.cons rfl (fun K hK => ?_) AllReadyH.nil
    rw [if_pos (by rfl)]
    refine wp_store_row 46 _ _ rfl (w.heap.size + 3) (d2).cells rfl rfl 46 _ HG2.out.rd (info41 HF2.out.len) (by rw [cells_size HF2.out.len]; rfl) (one41 _) ?_
    have HG3 := Lib.hid (HG2.out.setRd (d2))
    refine hK.out _ _ HG3.out.dk (fun hS => ?_)
    clear hK K HG2
    try simp only [Act.put, List.getElem_toArray, List.getElem_cons_succ, List.getElem_cons_zero, List.setIfInBounds_toArray, List.set_cons_zero, List.set_cons_succ]
    refine wpAnyH_done (by kernel_rfl) ?_ _
    go_wp2_with (fail)
    refine bodyPost_ret (results_ctc rfl _ _ (w.heap.size + 2) (w.heap.size + 3) 31 46 _ _ (0, 0) (0, 0) _ _ rfl HG3.out.rp Try.underlying31 rfl (by kernel_rfl) rfl HG3.out.rd HU.out rfl (info41 HF2.out.len)) rfl ?_
    exact ⟨rfl, HG3.out.bel⟩
  · obtain rfl : s = (3, 0, true) := HST.out.trans (if_neg hz)
    have hzb : ((er : Int) == 0) = false := bF hz
    have hzn : ((er : Int) != 0) = true := nT hz
    clear hz
    go_upto_region 22 with (fail)
    refine wp_region_held_drew (S := fun W => W.heap[w.heap.size]? = some (.cells (d2).cells 46 (0, 0))) (by kernel_rfl) HX4.out.dk (fun hS => ?_)
    have HG1 := Lib.hid (HX4.out.below (Below.refl _ _).drew)
    generalize World.drew _ = wr0 at *
    refine wpAnyH_take (i := 0) (v := ?_) rfl (by kernel_rfl) (by kernel_rfl) (by kernel_rfl) (fun _ _ _ h => h) (Or.inl ⟨by rfl, ?_⟩) hS ?_
    rotate_left
    · intro w' hSw; go_simp; try rfl
    try simp only [Act.put, List.getElem_toArray, List.getElem_cons_succ, List.getElem_cons_zero, List.setIfInBounds_toArray, List.set_cons_zero, List.set_cons_succ]
    refine wpAnyH_take (i := 1) (v := .agg (d2).cells) rfl (by kernel_rfl) (by kernel_rfl) (by kernel_rfl) (fun _ _ _ h => h) (Or.inl ⟨by rfl, fun w' hSw => ?_⟩) hS ?_
    · exact exec_load_row 46 _ rfl w.heap.size rfl 46 _ (0, 0) _ hSw HU.out rfl (info41 HF2.out.len)
    try simp only [Act.put, List.getElem_toArray, List.getElem_cons_succ, List.getElem_cons_zero, List.setIfInBounds_toArray, List.set_cons_zero, List.set_cons_succ]
    refine wpAnyH_ready (rs := [2]) (by kernel_rfl) (by simp) ?_
    refine AllReadyH.cons rfl (fun K hK => ?_) AllReadyH.nil
    rw [if_pos (by rfl)]
    refine wp_store_row 31 _ _ rfl (w.heap.size + 2) (rep 3 0) rfl rfl 31 _ HG1.out.rp (by kernel_rfl) rfl (rep_one _ _) ?_
    have HG2 := Lib.hid (HG1.out.setRp (rep 3 0))
    refine hK.out _ _ HG2.out.dk (fun hS => ?_)
    clear hK K HG1
    try simp only [Act.put, List.getElem_toArray, List.getElem_cons_succ, List.getElem_cons_zero, List.setIfInBounds_toArray, List.set_cons_zero, List.set_cons_succ]
    generalize World.setRow _ _ _ = wr1 at *
    refine wpAnyH_take (i := 3) (v := ?_) rfl (by kernel_rfl) (by kernel_rfl) (by kernel_rfl) (fun _ _ _ h => h) (Or.inl ⟨by rfl, ?_⟩) hS ?_
    rotate_left
    · intro w' hSw; go_simp; try rfl
    try simp only [Act.put, List.getElem_toArray, List.getElem_cons_succ, List.getElem_cons_zero, List.setIfInBounds_toArray, List.set_cons_zero, List.set_cons_succ]
    refine wpAnyH_ready (rs := [4]) (by kernel_rfl) (by simp) ?_
    refine AllReadyH.cons rfl (fun K hK => ?_) AllReadyH.nil
    rw [if_pos (by rfl)]
    refine wp_store_row 46 _ _ rfl (w.heap.size + 3) (d2).cells rfl rfl 46 _ HG2.out.rd (info41 HF2.out.len) (by rw [cells_size HF2.out.len]; rfl) (one41 _) ?_
    have HG3 := Lib.hid (HG2.out.setRd (d2))
    refine hK.out _ _ HG3.out.dk (fun hS => ?_)
    clear hK K HG2
    try simp only [Act.put, List.getElem_toArray, List.getElem_cons_succ, List.getElem_cons_zero, List.setIfInBounds_toArray, List.set_cons_zero, List.set_cons_succ]
    refine wpAnyH_done (by kernel_rfl) ?_ _
    go_wp2_with (fail)
    refine bodyPost_ret (results_ctc rfl _ _ (w.heap.size + 2) (w.heap.size + 3) 31 46 _ _ (0, 0) (0, 0) _ _ rfl HG3.out.rp Try.underlying31 rfl (by kernel_rfl) rfl HG3.out.rd HU.out rfl (info41 HF2.out.len)) rfl ?_
    exact ⟨rfl, HG3.out.bel⟩
set_option maxRecDepth 100000 in
set_option maxHeartbeats 4000000 in
theorem rgate_10 (d : Dk) (cap ini : Int) (c : Cmd) (dv : Value) (w : World) (hf : d.fine) (hs : Wd.Secs w dv c) (hc : (Lit.int .i64 cap).wf = true) (hini : isIn ini) (hchk : c.chk cap = 0) (hk : c.kind = 10) (s : Int × Int × Bool) (hst : s = if d.fault ini = 0 then (1, 0, true) else (3, 0, true)) :
    Calls Try.prog 24 #[.agg d.cells, .int .i64 cap, .int .i64 ini, c.val dv] w (RGPost w s (d.clr ini)) := by
  obtain ⟨fs, hu⟩ := u41
  have HU := Lib.hid hu
  have hX := Gx.start w d c dv
  have CK := Lib.hid (fun W hW => Wd.rcheck_any c dv cap W (hs.below hW) hc)
  have HF := Lib.hid hf
  obtain ⟨A, n0, cp, rfl⟩ : ∃ A n0 cp, dv = .slice A n0 cp := by
    obtain ⟨_, A, cp, h1, _⟩ := hs; exact ⟨A, _, cp, h1⟩
  have HX := Lib.hid hX
  clear hX hu hf hs
  have hcv : c.val (.slice A n0 cp) = .agg #[.int .i64 c.kind, .int .i64 c.lba, .int .i64 c.count, .slice A n0 cp, .int .u64 c.key, .int .i64 c.res, .bool c.keep] := rfl
  rw [hcv]
  clear hcv
  have i0 : ¬ ini < 0 := fun h => by have := hini.1; omega
  have i1 : ¬ 16 ≤ ini := fun h => by have := hini.2; omega
  have hxb : ((c.chk cap : Int) == 0) = true := bT hchk
  have hxn : ((c.chk cap : Int) != 0) = false := nF hchk
  generalize c.chk cap = X at *
  clear hchk hini
  have HST := Lib.hid hst
  clear hst
  have m2 : ((c.kind : Int) == 2) = false := bF (by omega)
  have m3 : ((c.kind : Int) == 3) = false := bF (by omega)
  have m5 : ((c.kind : Int) == 5) = false := bF (by omega)
  have m6 : ((c.kind : Int) == 6) = false := bF (by omega)
  have m7 : ((c.kind : Int) == 7) = false := bF (by omega)
  have m8 : ((c.kind : Int) == 8) = false := bF (by omega)
  have m9 : ((c.kind : Int) == 9) = false := bF (by omega)
  have m10 : ((c.kind : Int) == 10) = true := bT hk
  have m11 : ((c.kind : Int) == 11) = false := bF (by omega)
  clear hk
  go_enter Try.func24, Try.ntmps24
  go_upto_region 1 with (fail)
  change Code.wp _ _ _ _ ((((w.alloc (.cells d.cells 46)).alloc (.cells (Cmd.arr c (.slice A n0 cp)) 35)).alloc (.cells (rep 0 0) 31)).alloc (.cells Dk.new.cells 46))
  generalize ((((w.alloc (.cells d.cells 46)).alloc (.cells (Cmd.arr c (.slice A n0 cp)) 35)).alloc (.cells (rep 0 0) 31)).alloc (.cells Dk.new.cells 46)) = w1 at *
  have hX1 := HX.out
  have hk0 := HX.out.c0
  go_wp2_with (first
    | (refine wpList_load_row_g rfl 35 _ rfl (w.heap.size + 1) rfl 35 _ (0, 0) _ HX.out.cm Try.underlying35 rfl (by kernel_rfl) ?_))
  refine (CK.out _ HX.out.bel).mono ?_
  rintro e w2 ⟨rfl, hb2⟩
  have HX2 := Lib.hid (HX.out.below hb2)
  clear hb2 HX hX1 hk0
  have ck0 := HX2.out.c0
  have ck4 := HX2.out.c4
  have ck5 := HX2.out.c5
  have ck6 := HX2.out.c6
  have MY := Lib.hid (fun W => rClear_any d ini W HF.out.len)
  have HF2 : Hid (Dk.fine (d.clr ini)) := Lib.hid (fine_clr HF.out _)
  have hsz : d.cells.size = (d.clr ini).cells.size := by rw [cells_size HF.out.len, cells_size HF2.out.len]
  generalize d.fault ini = er at *
  generalize d.clr ini = d2 at *
  go_wp2_with (first
    | (refine wpList_load_row_g rfl 46 _ rfl w.heap.size rfl 46 _ (0, 0) _ HX2.out.dk HU.out rfl (info41 HF.out.len) ?_))
  refine (MY.out _).mono ?_
  rintro e w3 ⟨rfl, hb3⟩
  have HX3 := Lib.hid (HX2.out.below hb3)
  clear hb3 MY HX2 ck0 ck4 ck5 ck6
  go_upto_region 21 with (first
    | (refine wpList_store_row rfl 46 _ _ rfl w.heap.size d2.cells rfl rfl 46 _ HX3.out.dk (info41 HF2.out.len) hsz (one41 _) ?_))
  have HX4 := Lib.hid (HX3.out.setDk d2)
  clear HX3 hsz
  generalize World.setRow _ _ _ = w4 at *
  try simp only [Act.put]
  by_cases hz : er = 0
  · subst hz
    obtain rfl : s = (1, 0, true) := HST.out.trans (if_pos rfl)
    go_upto_region 23 with (fail)
    refine wp_region_held_drew (S := fun W => W.heap[w.heap.size]? = some (.cells (d2).cells 46 (0, 0))) (by kernel_rfl) HX4.out.dk (fun hS => ?_)
    have HG1 := Lib.hid (HX4.out.below (Below.refl _ _).drew)
    generalize World.drew _ = wr0 at *
    refine wpAnyH_take (i := 0) (v := ?_) rfl (by kernel_rfl) (by kernel_rfl) (by kernel_rfl) (fun _ _ _ h => h) (Or.inl ⟨by rfl, ?_⟩) hS ?_
    rotate_left
    · intro w' hSw; go_simp; try rfl
    try simp only [Act.put, List.getElem_toArray, List.getElem_cons_succ, List.getElem_cons_zero, List.setIfInBounds_toArray, List.set_cons_zero, List.set_cons_succ]
    refine wpAnyH_take (i := 1) (v := .agg (d2).cells) rfl (by kernel_rfl) (by kernel_rfl) (by kernel_rfl) (fun _ _ _ h => h) (Or.inl ⟨by rfl, fun w' hSw => ?_⟩) hS ?_
    · exact exec_load_row 46 _ rfl w.heap.size rfl 46 _ (0, 0) _ hSw HU.out rfl (info41 HF2.out.len)
    try simp only [Act.put, List.getElem_toArray, List.getElem_cons_succ, List.getElem_cons_zero, List.setIfInBounds_toArray, List.set_cons_zero, List.set_cons_succ]
    refine wpAnyH_ready (rs := [2]) (by kernel_rfl) (by simp) ?_
    refine AllReadyH.cons rfl (fun K hK => ?_) AllReadyH.nil
    rw [if_pos (by rfl)]
    refine wp_store_row 31 _ _ rfl (w.heap.size + 2) (rep 1 0) rfl rfl 31 _ HG1.out.rp (by kernel_rfl) rfl (rep_one _ _) ?_
    have HG2 := Lib.hid (HG1.out.setRp (rep 1 0))
    refine hK.out _ _ HG2.out.dk (fun hS => ?_)
    clear hK K HG1
    try simp only [Act.put, List.getElem_toArray, List.getElem_cons_succ, List.getElem_cons_zero, List.setIfInBounds_toArray, List.set_cons_zero, List.set_cons_succ]
    generalize World.setRow _ _ _ = wr1 at *
    refine wpAnyH_take (i := 3) (v := ?_) rfl (by kernel_rfl) (by kernel_rfl) (by kernel_rfl) (fun _ _ _ h => h) (Or.inl ⟨by rfl, ?_⟩) hS ?_
    rotate_left
    · intro w' hSw; go_simp; try rfl
    try simp only [Act.put, List.getElem_toArray, List.getElem_cons_succ, List.getElem_cons_zero, List.setIfInBounds_toArray, List.set_cons_zero, List.set_cons_succ]
    refine wpAnyH_ready (rs := [4]) (by kernel_rfl) (by simp) ?_
    refine AllReadyH.cons rfl (fun K hK => ?_) AllReadyH.nil
    rw [if_pos (by rfl)]
    refine wp_store_row 46 _ _ rfl (w.heap.size + 3) (d2).cells rfl rfl 46 _ HG2.out.rd (info41 HF2.out.len) (by rw [cells_size HF2.out.len]; rfl) (one41 _) ?_
    have HG3 := Lib.hid (HG2.out.setRd (d2))
    refine hK.out _ _ HG3.out.dk (fun hS => ?_)
    clear hK K HG2
    try simp only [Act.put, List.getElem_toArray, List.getElem_cons_succ, List.getElem_cons_zero, List.setIfInBounds_toArray, List.set_cons_zero, List.set_cons_succ]
    refine wpAnyH_done (by kernel_rfl) ?_ _
    go_wp2_with (fail)
    refine bodyPost_ret (results_ctc rfl _ _ (w.heap.size + 2) (w.heap.size + 3) 31 46 _ _ (0, 0) (0, 0) _ _ rfl HG3.out.rp Try.underlying31 rfl (by kernel_rfl) rfl HG3.out.rd HU.out rfl (info41 HF2.out.len)) rfl ?_
    exact ⟨rfl, HG3.out.bel⟩
  · obtain rfl : s = (3, 0, true) := HST.out.trans (if_neg hz)
    have hzb : ((er : Int) == 0) = false := bF hz
    have hzn : ((er : Int) != 0) = true := nT hz
    clear hz
    go_upto_region 22 with (fail)
    refine wp_region_held_drew (S := fun W => W.heap[w.heap.size]? = some (.cells (d2).cells 46 (0, 0))) (by kernel_rfl) HX4.out.dk (fun hS => ?_)
    have HG1 := Lib.hid (HX4.out.below (Below.refl _ _).drew)
    generalize World.drew _ = wr0 at *
    refine wpAnyH_take (i := 0) (v := ?_) rfl (by kernel_rfl) (by kernel_rfl) (by kernel_rfl) (fun _ _ _ h => h) (Or.inl ⟨by rfl, ?_⟩) hS ?_
    rotate_left
    · intro w' hSw; go_simp; try rfl
    try simp only [Act.put, List.getElem_toArray, List.getElem_cons_succ, List.getElem_cons_zero, List.setIfInBounds_toArray, List.set_cons_zero, List.set_cons_succ]
    refine wpAnyH_take (i := 1) (v := .agg (d2).cells) rfl (by kernel_rfl) (by kernel_rfl) (by kernel_rfl) (fun _ _ _ h => h) (Or.inl ⟨by rfl, fun w' hSw => ?_⟩) hS ?_
    · exact exec_load_row 46 _ rfl w.heap.size rfl 46 _ (0, 0) _ hSw HU.out rfl (info41 HF2.out.len)
    try simp only [Act.put, List.getElem_toArray, List.getElem_cons_succ, List.getElem_cons_zero, List.setIfInBounds_toArray, List.set_cons_zero, List.set_cons_succ]
    refine wpAnyH_ready (rs := [2]) (by kernel_rfl) (by simp) ?_
    refine AllReadyH.cons rfl (fun K hK => ?_) AllReadyH.nil
    rw [if_pos (by rfl)]
    refine wp_store_row 31 _ _ rfl (w.heap.size + 2) (rep 3 0) rfl rfl 31 _ HG1.out.rp (by kernel_rfl) rfl (rep_one _ _) ?_
    have HG2 := Lib.hid (HG1.out.setRp (rep 3 0))
    refine hK.out _ _ HG2.out.dk (fun hS => ?_)
    clear hK K HG1
    try simp only [Act.put, List.getElem_toArray, List.getElem_cons_succ, List.getElem_cons_zero, List.setIfInBounds_toArray, List.set_cons_zero, List.set_cons_succ]
    generalize World.setRow _ _ _ = wr1 at *
    refine wpAnyH_take (i := 3) (v := ?_) rfl (by kernel_rfl) (by kernel_rfl) (by kernel_rfl) (fun _ _ _ h => h) (Or.inl ⟨by rfl, ?_⟩) hS ?_
    rotate_left
    · intro w' hSw; go_simp; try rfl
    try simp only [Act.put, List.getElem_toArray, List.getElem_cons_succ, List.getElem_cons_zero, List.setIfInBounds_toArray, List.set_cons_zero, List.set_cons_succ]
    refine wpAnyH_ready (rs := [4]) (by kernel_rfl) (by simp) ?_
    refine AllReadyH.cons rfl (fun K hK => ?_) AllReadyH.nil
    rw [if_pos (by rfl)]
    refine wp_store_row 46 _ _ rfl (w.heap.size + 3) (d2).cells rfl rfl 46 _ HG2.out.rd (info41 HF2.out.len) (by rw [cells_size HF2.out.len]; rfl) (one41 _) ?_
    have HG3 := Lib.hid (HG2.out.setRd (d2))
    refine hK.out _ _ HG3.out.dk (fun hS => ?_)
    clear hK K HG2
    try simp only [Act.put, List.getElem_toArray, List.getElem_cons_succ, List.getElem_cons_zero, List.setIfInBounds_toArray, List.set_cons_zero, List.set_cons_succ]
    refine wpAnyH_done (by kernel_rfl) ?_ _
    go_wp2_with (fail)
    refine bodyPost_ret (results_ctc rfl _ _ (w.heap.size + 2) (w.heap.size + 3) 31 46 _ _ (0, 0) (0, 0) _ _ rfl HG3.out.rp Try.underlying31 rfl (by kernel_rfl) rfl HG3.out.rd HU.out rfl (info41 HF2.out.len)) rfl ?_
    exact ⟨rfl, HG3.out.bel⟩
set_option maxRecDepth 100000 in
set_option maxHeartbeats 4000000 in
theorem rgate_11 (d : Dk) (cap ini : Int) (c : Cmd) (dv : Value) (w : World) (hf : d.fine) (hs : Wd.Secs w dv c) (hc : (Lit.int .i64 cap).wf = true) (hini : isIn ini) (hchk : c.chk cap = 0) (hk : c.kind = 11) (s : Int × Int × Bool) (hst : s = if d.preE ini c.key = 0 then (1, 0, true) else (3, 0, true)) :
    Calls Try.prog 24 #[.agg d.cells, .int .i64 cap, .int .i64 ini, c.val dv] w (RGPost w s (d.pre ini c.key)) := by
  obtain ⟨fs, hu⟩ := u41
  have HU := Lib.hid hu
  have hX := Gx.start w d c dv
  have CK := Lib.hid (fun W hW => Wd.rcheck_any c dv cap W (hs.below hW) hc)
  have HF := Lib.hid hf
  obtain ⟨A, n0, cp, rfl⟩ : ∃ A n0 cp, dv = .slice A n0 cp := by
    obtain ⟨_, A, cp, h1, _⟩ := hs; exact ⟨A, _, cp, h1⟩
  have HX := Lib.hid hX
  clear hX hu hf hs
  have hcv : c.val (.slice A n0 cp) = .agg #[.int .i64 c.kind, .int .i64 c.lba, .int .i64 c.count, .slice A n0 cp, .int .u64 c.key, .int .i64 c.res, .bool c.keep] := rfl
  rw [hcv]
  clear hcv
  have i0 : ¬ ini < 0 := fun h => by have := hini.1; omega
  have i1 : ¬ 16 ≤ ini := fun h => by have := hini.2; omega
  have hxb : ((c.chk cap : Int) == 0) = true := bT hchk
  have hxn : ((c.chk cap : Int) != 0) = false := nF hchk
  generalize c.chk cap = X at *
  clear hchk hini
  have HST := Lib.hid hst
  clear hst
  have m2 : ((c.kind : Int) == 2) = false := bF (by omega)
  have m3 : ((c.kind : Int) == 3) = false := bF (by omega)
  have m5 : ((c.kind : Int) == 5) = false := bF (by omega)
  have m6 : ((c.kind : Int) == 6) = false := bF (by omega)
  have m7 : ((c.kind : Int) == 7) = false := bF (by omega)
  have m8 : ((c.kind : Int) == 8) = false := bF (by omega)
  have m9 : ((c.kind : Int) == 9) = false := bF (by omega)
  have m10 : ((c.kind : Int) == 10) = false := bF (by omega)
  have m11 : ((c.kind : Int) == 11) = true := bT hk
  clear hk
  go_enter Try.func24, Try.ntmps24
  go_upto_region 1 with (fail)
  change Code.wp _ _ _ _ ((((w.alloc (.cells d.cells 46)).alloc (.cells (Cmd.arr c (.slice A n0 cp)) 35)).alloc (.cells (rep 0 0) 31)).alloc (.cells Dk.new.cells 46))
  generalize ((((w.alloc (.cells d.cells 46)).alloc (.cells (Cmd.arr c (.slice A n0 cp)) 35)).alloc (.cells (rep 0 0) 31)).alloc (.cells Dk.new.cells 46)) = w1 at *
  have hX1 := HX.out
  have hk0 := HX.out.c0
  go_wp2_with (first
    | (refine wpList_load_row_g rfl 35 _ rfl (w.heap.size + 1) rfl 35 _ (0, 0) _ HX.out.cm Try.underlying35 rfl (by kernel_rfl) ?_))
  refine (CK.out _ HX.out.bel).mono ?_
  rintro e w2 ⟨rfl, hb2⟩
  have HX2 := Lib.hid (HX.out.below hb2)
  clear hb2 HX hX1 hk0
  have ck0 := HX2.out.c0
  have ck4 := HX2.out.c4
  have ck5 := HX2.out.c5
  have ck6 := HX2.out.c6
  have MY := Lib.hid (fun W => rPreempt_any d ini c.key W HF.out.len (fun _ => HF.out.holder))
  have HF2 : Hid (Dk.fine (d.pre ini c.key)) := Lib.hid (fine_pre HF.out _ _)
  have hsz : d.cells.size = (d.pre ini c.key).cells.size := by rw [cells_size HF.out.len, cells_size HF2.out.len]
  generalize d.preE ini c.key = er at *
  generalize d.pre ini c.key = d2 at *
  go_wp2_with (first
    | (refine wpList_load_row_g rfl 46 _ rfl w.heap.size rfl 46 _ (0, 0) _ HX2.out.dk HU.out rfl (info41 HF.out.len) ?_))
  refine (MY.out _).mono ?_
  rintro e w3 ⟨rfl, hb3⟩
  have HX3 := Lib.hid (HX2.out.below hb3)
  clear hb3 MY HX2 ck0 ck4 ck5 ck6
  go_upto_region 21 with (first
    | (refine wpList_store_row rfl 46 _ _ rfl w.heap.size d2.cells rfl rfl 46 _ HX3.out.dk (info41 HF2.out.len) hsz (one41 _) ?_))
  have HX4 := Lib.hid (HX3.out.setDk d2)
  clear HX3 hsz
  generalize World.setRow _ _ _ = w4 at *
  try simp only [Act.put]
  by_cases hz : er = 0
  · subst hz
    obtain rfl : s = (1, 0, true) := HST.out.trans (if_pos rfl)
    go_upto_region 23 with (fail)
    refine wp_region_held_drew (S := fun W => W.heap[w.heap.size]? = some (.cells (d2).cells 46 (0, 0))) (by kernel_rfl) HX4.out.dk (fun hS => ?_)
    have HG1 := Lib.hid (HX4.out.below (Below.refl _ _).drew)
    generalize World.drew _ = wr0 at *
    refine wpAnyH_take (i := 0) (v := ?_) rfl (by kernel_rfl) (by kernel_rfl) (by kernel_rfl) (fun _ _ _ h => h) (Or.inl ⟨by rfl, ?_⟩) hS ?_
    rotate_left
    · intro w' hSw; go_simp; try rfl
    try simp only [Act.put, List.getElem_toArray, List.getElem_cons_succ, List.getElem_cons_zero, List.setIfInBounds_toArray, List.set_cons_zero, List.set_cons_succ]
    refine wpAnyH_take (i := 1) (v := .agg (d2).cells) rfl (by kernel_rfl) (by kernel_rfl) (by kernel_rfl) (fun _ _ _ h => h) (Or.inl ⟨by rfl, fun w' hSw => ?_⟩) hS ?_
    · exact exec_load_row 46 _ rfl w.heap.size rfl 46 _ (0, 0) _ hSw HU.out rfl (info41 HF2.out.len)
    try simp only [Act.put, List.getElem_toArray, List.getElem_cons_succ, List.getElem_cons_zero, List.setIfInBounds_toArray, List.set_cons_zero, List.set_cons_succ]
    refine wpAnyH_ready (rs := [2]) (by kernel_rfl) (by simp) ?_
    refine AllReadyH.cons rfl (fun K hK => ?_) AllReadyH.nil
    rw [if_pos (by rfl)]
    refine wp_store_row 31 _ _ rfl (w.heap.size + 2) (rep 1 0) rfl rfl 31 _ HG1.out.rp (by kernel_rfl) rfl (rep_one _ _) ?_
    have HG2 := Lib.hid (HG1.out.setRp (rep 1 0))
    refine hK.out _ _ HG2.out.dk (fun hS => ?_)
    clear hK K HG1
    try simp only [Act.put, List.getElem_toArray, List.getElem_cons_succ, List.getElem_cons_zero, List.setIfInBounds_toArray, List.set_cons_zero, List.set_cons_succ]
    generalize World.setRow _ _ _ = wr1 at *
    refine wpAnyH_take (i := 3) (v := ?_) rfl (by kernel_rfl) (by kernel_rfl) (by kernel_rfl) (fun _ _ _ h => h) (Or.inl ⟨by rfl, ?_⟩) hS ?_
    rotate_left
    · intro w' hSw; go_simp; try rfl
    try simp only [Act.put, List.getElem_toArray, List.getElem_cons_succ, List.getElem_cons_zero, List.setIfInBounds_toArray, List.set_cons_zero, List.set_cons_succ]
    refine wpAnyH_ready (rs := [4]) (by kernel_rfl) (by simp) ?_
    refine AllReadyH.cons rfl (fun K hK => ?_) AllReadyH.nil
    rw [if_pos (by rfl)]
    refine wp_store_row 46 _ _ rfl (w.heap.size + 3) (d2).cells rfl rfl 46 _ HG2.out.rd (info41 HF2.out.len) (by rw [cells_size HF2.out.len]; rfl) (one41 _) ?_
    have HG3 := Lib.hid (HG2.out.setRd (d2))
    refine hK.out _ _ HG3.out.dk (fun hS => ?_)
    clear hK K HG2
    try simp only [Act.put, List.getElem_toArray, List.getElem_cons_succ, List.getElem_cons_zero, List.setIfInBounds_toArray, List.set_cons_zero, List.set_cons_succ]
    refine wpAnyH_done (by kernel_rfl) ?_ _
    go_wp2_with (fail)
    refine bodyPost_ret (results_ctc rfl _ _ (w.heap.size + 2) (w.heap.size + 3) 31 46 _ _ (0, 0) (0, 0) _ _ rfl HG3.out.rp Try.underlying31 rfl (by kernel_rfl) rfl HG3.out.rd HU.out rfl (info41 HF2.out.len)) rfl ?_
    exact ⟨rfl, HG3.out.bel⟩
  · obtain rfl : s = (3, 0, true) := HST.out.trans (if_neg hz)
    have hzb : ((er : Int) == 0) = false := bF hz
    have hzn : ((er : Int) != 0) = true := nT hz
    clear hz
    go_upto_region 22 with (fail)
    refine wp_region_held_drew (S := fun W => W.heap[w.heap.size]? = some (.cells (d2).cells 46 (0, 0))) (by kernel_rfl) HX4.out.dk (fun hS => ?_)
    have HG1 := Lib.hid (HX4.out.below (Below.refl _ _).drew)
    generalize World.drew _ = wr0 at *
    refine wpAnyH_take (i := 0) (v := ?_) rfl (by kernel_rfl) (by kernel_rfl) (by kernel_rfl) (fun _ _ _ h => h) (Or.inl ⟨by rfl, ?_⟩) hS ?_
    rotate_left
    · intro w' hSw; go_simp; try rfl
    try simp only [Act.put, List.getElem_toArray, List.getElem_cons_succ, List.getElem_cons_zero, List.setIfInBounds_toArray, List.set_cons_zero, List.set_cons_succ]
    refine wpAnyH_take (i := 1) (v := .agg (d2).cells) rfl (by kernel_rfl) (by kernel_rfl) (by kernel_rfl) (fun _ _ _ h => h) (Or.inl ⟨by rfl, fun w' hSw => ?_⟩) hS ?_
    · exact exec_load_row 46 _ rfl w.heap.size rfl 46 _ (0, 0) _ hSw HU.out rfl (info41 HF2.out.len)
    try simp only [Act.put, List.getElem_toArray, List.getElem_cons_succ, List.getElem_cons_zero, List.setIfInBounds_toArray, List.set_cons_zero, List.set_cons_succ]
    refine wpAnyH_ready (rs := [2]) (by kernel_rfl) (by simp) ?_
    refine AllReadyH.cons rfl (fun K hK => ?_) AllReadyH.nil
    rw [if_pos (by rfl)]
    refine wp_store_row 31 _ _ rfl (w.heap.size + 2) (rep 3 0) rfl rfl 31 _ HG1.out.rp (by kernel_rfl) rfl (rep_one _ _) ?_
    have HG2 := Lib.hid (HG1.out.setRp (rep 3 0))
    refine hK.out _ _ HG2.out.dk (fun hS => ?_)
    clear hK K HG1
    try simp only [Act.put, List.getElem_toArray, List.getElem_cons_succ, List.getElem_cons_zero, List.setIfInBounds_toArray, List.set_cons_zero, List.set_cons_succ]
    generalize World.setRow _ _ _ = wr1 at *
    refine wpAnyH_take (i := 3) (v := ?_) rfl (by kernel_rfl) (by kernel_rfl) (by kernel_rfl) (fun _ _ _ h => h) (Or.inl ⟨by rfl, ?_⟩) hS ?_
    rotate_left
    · intro w' hSw; go_simp; try rfl
    try simp only [Act.put, List.getElem_toArray, List.getElem_cons_succ, List.getElem_cons_zero, List.setIfInBounds_toArray, List.set_cons_zero, List.set_cons_succ]
    refine wpAnyH_ready (rs := [4]) (by kernel_rfl) (by simp) ?_
    refine AllReadyH.cons rfl (fun K hK => ?_) AllReadyH.nil
    rw [if_pos (by rfl)]
    refine wp_store_row 46 _ _ rfl (w.heap.size + 3) (d2).cells rfl rfl 46 _ HG2.out.rd (info41 HF2.out.len) (by rw [cells_size HF2.out.len]; rfl) (one41 _) ?_
    have HG3 := Lib.hid (HG2.out.setRd (d2))
    refine hK.out _ _ HG3.out.dk (fun hS => ?_)
    clear hK K HG2
    try simp only [Act.put, List.getElem_toArray, List.getElem_cons_succ, List.getElem_cons_zero, List.setIfInBounds_toArray, List.set_cons_zero, List.set_cons_succ]
    refine wpAnyH_done (by kernel_rfl) ?_ _
    go_wp2_with (fail)
    refine bodyPost_ret (results_ctc rfl _ _ (w.heap.size + 2) (w.heap.size + 3) 31 46 _ _ (0, 0) (0, 0) _ _ rfl HG3.out.rp Try.underlying31 rfl (by kernel_rfl) rfl HG3.out.rd HU.out rfl (info41 HF2.out.len)) rfl ?_
    exact ⟨rfl, HG3.out.bel⟩
set_option maxRecDepth 100000 in
set_option maxHeartbeats 4000000 in
theorem rgate_else (d : Dk) (cap ini : Int) (c : Cmd) (dv : Value) (w : World) (hf : d.fine) (hs : Wd.Secs w dv c) (hc : (Lit.int .i64 cap).wf = true) (hini : isIn ini) (hchk : c.chk cap = 0) (hk : ¬ c.kind = 2 ∧ ¬ c.kind = 3 ∧ ¬ c.kind = 5 ∧ ¬ c.kind = 6 ∧ ¬ c.kind = 7 ∧ ¬ c.kind = 8 ∧ ¬ c.kind = 9 ∧ ¬ c.kind = 10 ∧ ¬ c.kind = 11) :
    Calls Try.prog 24 #[.agg d.cells, .int .i64 cap, .int .i64 ini, c.val dv] w (RGPost w (0, 0, false) d) := by
  obtain ⟨fs, hu⟩ := u41
  have HU := Lib.hid hu
  have hX := Gx.start w d c dv
  have CK := Lib.hid (fun W hW => Wd.rcheck_any c dv cap W (hs.below hW) hc)
  have HF := Lib.hid hf
  obtain ⟨A, n0, cp, rfl⟩ : ∃ A n0 cp, dv = .slice A n0 cp := by
    obtain ⟨_, A, cp, h1, _⟩ := hs; exact ⟨A, _, cp, h1⟩
  have HX := Lib.hid hX
  clear hX hu hf hs
  have hcv : c.val (.slice A n0 cp) = .agg #[.int .i64 c.kind, .int .i64 c.lba, .int .i64 c.count, .slice A n0 cp, .int .u64 c.key, .int .i64 c.res, .bool c.keep] := rfl
  rw [hcv]
  clear hcv
  have i0 : ¬ ini < 0 := fun h => by have := hini.1; omega
  have i1 : ¬ 16 ≤ ini := fun h => by have := hini.2; omega
  have hxb : ((c.chk cap : Int) == 0) = true := bT hchk
  have hxn : ((c.chk cap : Int) != 0) = false := nF hchk
  generalize c.chk cap = X at *
  clear hchk hini
  have m2 : ((c.kind : Int) == 2) = false := bF (by omega)
  have m3 : ((c.kind : Int) == 3) = false := bF (by omega)
  have m5 : ((c.kind : Int) == 5) = false := bF (by omega)
  have m6 : ((c.kind : Int) == 6) = false := bF (by omega)
  have m7 : ((c.kind : Int) == 7) = false := bF (by omega)
  have m8 : ((c.kind : Int) == 8) = false := bF (by omega)
  have m9 : ((c.kind : Int) == 9) = false := bF (by omega)
  have m10 : ((c.kind : Int) == 10) = false := bF (by omega)
  have m11 : ((c.kind : Int) == 11) = false := bF (by omega)
  clear hk
  go_enter Try.func24, Try.ntmps24
  go_upto_region 1 with (fail)
  change Code.wp _ _ _ _ ((((w.alloc (.cells d.cells 46)).alloc (.cells (Cmd.arr c (.slice A n0 cp)) 35)).alloc (.cells (rep 0 0) 31)).alloc (.cells Dk.new.cells 46))
  generalize ((((w.alloc (.cells d.cells 46)).alloc (.cells (Cmd.arr c (.slice A n0 cp)) 35)).alloc (.cells (rep 0 0) 31)).alloc (.cells Dk.new.cells 46)) = w1 at *
  have hX1 := HX.out
  have hk0 := HX.out.c0
  go_wp2_with (first
    | (refine wpList_load_row_g rfl 35 _ rfl (w.heap.size + 1) rfl 35 _ (0, 0) _ HX.out.cm Try.underlying35 rfl (by kernel_rfl) ?_))
  refine (CK.out _ HX.out.bel).mono ?_
  rintro e w2 ⟨rfl, hb2⟩
  have HX2 := Lib.hid (HX.out.below hb2)
  clear hb2 HX hX1 hk0
  have ck0 := HX2.out.c0
  have ck4 := HX2.out.c4
  have ck5 := HX2.out.c5
  have ck6 := HX2.out.c6
  go_upto_region 10 with (fail)
  refine wp_region_held_drew (S := fun W => W.heap[w.heap.size]? = some (.cells (d).cells 46 (0, 0))) (by kernel_rfl) HX2.out.dk (fun hS => ?_)
  have HG1 := Lib.hid (HX2.out.below (Below.refl _ _).drew)
  generalize World.drew _ = wr0 at *
  refine wpAnyH_take (i := 0) (v := ?_) rfl (by kernel_rfl) (by kernel_rfl) (by kernel_rfl) (fun _ _ _ h => h) (Or.inl ⟨by rfl, ?_⟩) hS ?_
  rotate_left
  · intro w' hSw; go_simp; try rfl
  try simp only [Act.put, List.getElem_toArray, List.getElem_cons_succ, List.getElem_cons_zero, List.setIfInBounds_toArray, List.set_cons_zero, List.set_cons_succ]
  refine wpAnyH_take (i := 1) (v := .agg (d).cells) rfl (by kernel_rfl) (by kernel_rfl) (by kernel_rfl) (fun _ _ _ h => h) (Or.inl ⟨by rfl, fun w' hSw => ?_⟩) hS ?_
  · exact exec_load_row 46 _ rfl w.heap.size rfl 46 _ (0, 0) _ hSw HU.out rfl (info41 HF.out.len)
  try simp only [Act.put, List.getElem_toArray, List.getElem_cons_succ, List.getElem_cons_zero, List.setIfInBounds_toArray, List.set_cons_zero, List.set_cons_succ]
  refine wpAnyH_ready (rs := [2]) (by kernel_rfl) (by simp) ?_
  refine AllReadyH.cons rfl (fun K hK => ?_) AllReadyH.nil
  rw [if_pos (by rfl)]
  refine wp_store_row 31 _ _ rfl (w.heap.size + 2) (rep 0 0) rfl rfl 31 _ HG1.out.rp (by kernel_rfl) rfl (rep_one _ _) ?_
  have HG2 := Lib.hid (HG1.out.setRp (rep 0 0))
  refine hK.out _ _ HG2.out.dk (fun hS => ?_)
  clear hK K HG1
  try simp only [Act.put, List.getElem_toArray, List.getElem_cons_succ, List.getElem_cons_zero, List.setIfInBounds_toArray, List.set_cons_zero, List.set_cons_succ]
  generalize World.setRow _ _ _ = wr1 at *
  refine wpAnyH_take (i := 3) (v := ?_) rfl (by kernel_rfl) (by kernel_rfl) (by kernel_rfl) (fun _ _ _ h => h) (Or.inl ⟨by rfl, ?_⟩) hS ?_
  rotate_left
  · intro w' hSw; go_simp; try rfl
  try simp only [Act.put, List.getElem_toArray, List.getElem_cons_succ, List.getElem_cons_zero, List.setIfInBounds_toArray, List.set_cons_zero, List.set_cons_succ]
  refine wpAnyH_ready (rs := [4]) (by kernel_rfl) (by simp) ?_
  refine AllReadyH.cons rfl (fun K hK => ?_) AllReadyH.nil
  rw [if_pos (by rfl)]
  refine wp_store_row 46 _ _ rfl (w.heap.size + 3) (d).cells rfl rfl 46 _ HG2.out.rd (info41 HF.out.len) (by rw [cells_size HF.out.len]; rfl) (one41 _) ?_
  have HG3 := Lib.hid (HG2.out.setRd (d))
  refine hK.out _ _ HG3.out.dk (fun hS => ?_)
  clear hK K HG2
  try simp only [Act.put, List.getElem_toArray, List.getElem_cons_succ, List.getElem_cons_zero, List.setIfInBounds_toArray, List.set_cons_zero, List.set_cons_succ]
  refine wpAnyH_done (by kernel_rfl) ?_ _
  go_wp2_with (fail)
  refine bodyPost_ret (results_ctc rfl _ _ (w.heap.size + 2) (w.heap.size + 3) 31 46 _ _ (0, 0) (0, 0) _ _ rfl HG3.out.rp Try.underlying31 rfl (by kernel_rfl) rfl HG3.out.rd HU.out rfl (info41 HF.out.len)) rfl ?_
  exact ⟨rfl, HG3.out.bel⟩
theorem rgate_any (d : Dk) (cap ini : Int) (c : Cmd) (dv : Value) (w : World) (hf : d.fine) (hs : Wd.Secs w dv c) (hc : (Lit.int .i64 cap).wf = true) :
    Calls Try.prog 24 #[.agg d.cells, .int .i64 cap, .int .i64 ini, c.val dv] w (RGPost w (rgS d cap ini c) (gateD d cap ini c)) := by
  by_cases hbad : ¬ isIn ini ∨ ¬ c.chk cap = 0
  · unfold rgS gateD
    rw [if_pos hbad, if_pos hbad]
    exact rgate_bad d cap ini c dv w hf hs hc hbad
  · have hini : isIn ini := Classical.byContradiction fun h => hbad (.inl h)
    have hchk : c.chk cap = 0 := Classical.byContradiction fun h => hbad (.inr h)
    unfold rgS gateD gateS
    rw [if_neg hbad, if_neg hbad, if_neg hbad]
    by_cases k2 : c.kind = 2
    · simp only [k2]
      cases hm : d.may ini false with
      | true => exact rgate_2y d cap ini c dv w hf hs hc hini hchk k2 hm
      | false => exact rgate_2n d cap ini c dv w hf hs hc hini hchk k2 hm
    by_cases k3 : c.kind = 3
    · simp only [k3]
      cases hm : d.may ini true with
      | true => exact rgate_3y d cap ini c dv w hf hs hc hini hchk k3 hm
      | false => exact rgate_3n d cap ini c dv w hf hs hc hini hchk k3 hm
    by_cases k5 : c.kind = 5
    · simp only [k5]
      cases hm : d.may ini true with
      | true => exact rgate_5y d cap ini c dv w hf hs hc hini hchk k5 hm
      | false => exact rgate_5n d cap ini c dv w hf hs hc hini hchk k5 hm
    by_cases k6 : c.kind = 6
    · simp only [k6]
      cases hm : d.may ini true with
      | true => exact rgate_6y d cap ini c dv w hf hs hc hini hchk k6 hm
      | false => exact rgate_6n d cap ini c dv w hf hs hc hini hchk k6 hm
    by_cases k7 : c.kind = 7
    · have h1 := rgate_7 d cap ini c dv w hf hs hc hini hchk k7
      simp only [k7]
      exact h1 _ rfl
    by_cases k8 : c.kind = 8
    · have h1 := rgate_8 d cap ini c dv w hf hs hc hini hchk k8
      simp only [k8]
      exact h1 _ rfl
    by_cases k9 : c.kind = 9
    · have h1 := rgate_9 d cap ini c dv w hf hs hc hini hchk k9
      simp only [k9]
      exact h1 _ rfl
    by_cases k10 : c.kind = 10
    · have h1 := rgate_10 d cap ini c dv w hf hs hc hini hchk k10
      simp only [k10]
      exact h1 _ rfl
    by_cases k11 : c.kind = 11
    · have h1 := rgate_11 d cap ini c dv w hf hs hc hini hchk k11
      simp only [k11]
      exact h1 _ rfl
    have h1 := rgate_else d cap ini c dv w hf hs hc hini hchk ⟨k2, k3, k5, k6, k7, k8, k9, k10, k11⟩
    have hn : ¬ (c.kind = 3 ∨ c.kind = 5 ∨ c.kind = 6) := by rintro (h | h | h) <;> contradiction
    simp only [if_neg k2, if_neg hn, if_neg k7, if_neg k8, if_neg k9, if_neg k10, if_neg k11]
    exact h1
end Go.Proofs.Ytjpdjhmajjbgmaa.Md
