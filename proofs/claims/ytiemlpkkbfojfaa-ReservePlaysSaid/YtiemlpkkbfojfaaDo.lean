/- ravelinlaw17.do: a step of both, walked; one contract for each kind of step. -/
import Derived.Test.YtiemlpkkbfojfaaRef4
namespace Go.Proofs.Ytiemlpkkbfojfaa.Res
open Go.RowKit
set_option linter.unusedVariables false
theorem res_len (d : Dk) (n k : Int) (hl : d.keys.length = 16) : (d.res n k).keys.length = 16 := by unfold Dk.res; split <;> exact hl
theorem rel_len (d : Dk) (n : Int) (hl : d.keys.length = 16) : (d.rel n).keys.length = 16 := by unfold Dk.rel; split <;> exact hl
theorem clr_len (d : Dk) (n : Int) (hl : d.keys.length = 16) : (d.clr n).keys.length = 16 := by unfold Dk.clr; split; rfl; exact hl
theorem pre_len (d : Dk) (n k : Int) (hl : d.keys.length = 16) : (d.pre n k).keys.length = 16 := by unfold Dk.pre; split; exact struck_length _ _ _ _; exact hl
theorem results_ttc {P : Program} {fn : Func} {p u v : Tmp} {ty : TypeId} (h : fn.results = #[.tmp u, .tmp v, .cell p ty]) (tmps : Array Value) (w : World) (g : Nat) (t : TypeId) (cs : Array Value) (fr : Nat × Nat) (d : TypeDesc)
    (hp : tmps.getD p undef = .pointer (some ⟨g, 0, none⟩)) (hg : w.heap[g]? = some (.cells cs t fr))
    (hu : P.underlying ty = some d) (hd : (match d with | .struct _ | .array _ _ => true | _ => false) = true) (hi : (P.info? ty).map (·.size) = some cs.size) :
    (results fn tmps).run P w = .ok (.tuple #[tmps.getD u undef, tmps.getD v undef, .agg cs]) w := by
  have hp' : tmps[p]?.getD undef = .pointer (some ⟨g, 0, none⟩) := by simpa using hp
  simp [results, h, hp', asAddr, run_loadVar_row w g t ty cs fr d hg hu hd hi]
/-- Where 'do' stands: the program's desk, the document's in its box, the step in its box, the result's cell. -/
structure DoW (w0 w : World) (g b1 b2 b3 : Nat) (d r x : Dk) (kd ini rs ky : Int) (kp : Bool) : Prop where
  des : HasD w g d
  box : HasR w b1 r
  opb : w.heap[b2]? = some (.cells #[.int .i64 kd, .int .i64 ini, .int .i64 rs, .int .u64 ky, .bool kp] 45 (0, 0))
  res : HasR w b3 x
  only : Only [g] w0 w
  hg : g < w0.heap.size
  lo1 : w0.heap.size ≤ b1
  lo2 : b1 < b2
  lo3 : b2 < b3
section
variable {w0 w w' : World} {g b1 b2 b3 : Nat} {d r x d' r' x' : Dk} {kd ini rs ky : Int} {kp : Bool}
theorem DoW.op0 (h : DoW w0 w g b1 b2 b3 d r x kd ini rs ky kp) : w.cell? ⟨b2, 0, none⟩ = some (.int .i64 kd) := by rw [cell_of_heap h.opb]; rfl
theorem DoW.op1 (h : DoW w0 w g b1 b2 b3 d r x kd ini rs ky kp) : w.cell? ⟨b2, 1, none⟩ = some (.int .i64 ini) := by rw [cell_of_heap h.opb]; rfl
theorem DoW.op2 (h : DoW w0 w g b1 b2 b3 d r x kd ini rs ky kp) : w.cell? ⟨b2, 2, none⟩ = some (.int .i64 rs) := by rw [cell_of_heap h.opb]; rfl
theorem DoW.op3 (h : DoW w0 w g b1 b2 b3 d r x kd ini rs ky kp) : w.cell? ⟨b2, 3, none⟩ = some (.int .u64 ky) := by rw [cell_of_heap h.opb]; rfl
theorem DoW.op4 (h : DoW w0 w g b1 b2 b3 d r x kd ini rs ky kp) : w.cell? ⟨b2, 4, none⟩ = some (.bool kp) := by rw [cell_of_heap h.opb]; rfl
theorem DoW.drew_ (h : DoW w0 w g b1 b2 b3 d r x kd ini rs ky kp) : DoW w0 w.drew g b1 b2 b3 d r x kd ini rs ky kp :=
  ⟨⟨h.des.heap, h.des.len⟩, ⟨h.box.heap, h.box.len⟩, h.opb, ⟨h.res.heap, h.res.len⟩, h.only.drew_, h.hg, h.lo1, h.lo2, h.lo3⟩
theorem DoW.kept (h : DoW w0 w g b1 b2 b3 d r x kd ini rs ky kp) (hb : Below w.heap.size w w') : DoW w0 w' g b1 b2 b3 d r x kd ini rs ky kp :=
  have ho := Only.of_below hb []
  ⟨h.des.kept ho (by simp), h.box.kept ho (by simp), (ho.block b2 (lt_of_heap h.opb) (by simp)).trans h.opb, h.res.kept ho (by simp), h.only.trans ho (by simp), h.hg, h.lo1, h.lo2, h.lo3⟩
theorem DoW.onDesk (h : DoW w0 w g b1 b2 b3 d r x kd ini rs ky kp) (ho : Only [g] w w') (hd : HasD w' g d') : DoW w0 w' g b1 b2 b3 d' r x kd ini rs ky kp :=
  have a1 := h.hg; have a2 := h.lo1; have a3 := h.lo2; have a4 := h.lo3
  ⟨hd, h.box.kept ho (by simp; omega), (ho.block b2 (lt_of_heap h.opb) (by simp; omega)).trans h.opb, h.res.kept ho (by simp; omega), h.only.trans1 ho, h.hg, h.lo1, h.lo2, h.lo3⟩
theorem DoW.onBox (h : DoW w0 w g b1 b2 b3 d r x kd ini rs ky kp) (ho : Only [b1] w w') (hd : HasR w' b1 r') : DoW w0 w' g b1 b2 b3 d r' x kd ini rs ky kp :=
  have a1 := h.hg; have a2 := h.lo1; have a3 := h.lo2; have a4 := h.lo3
  ⟨h.des.kept ho (by simp; omega), hd, (ho.block b2 (lt_of_heap h.opb) (by simp; omega)).trans h.opb, h.res.kept ho (by simp; omega), h.only.trans ho (by simp; omega), h.hg, h.lo1, h.lo2, h.lo3⟩
theorem DoW.onRes (h : DoW w0 w g b1 b2 b3 d r x kd ini rs ky kp) (ho : Only [b3] w w') (hd : HasR w' b3 x') : DoW w0 w' g b1 b2 b3 d r x' kd ini rs ky kp :=
  have a1 := h.hg; have a2 := h.lo1; have a3 := h.lo2; have a4 := h.lo3
  ⟨h.des.kept ho (by simp; omega), h.box.kept ho (by simp; omega), (ho.block b2 (lt_of_heap h.opb) (by simp; omega)).trans h.opb, hd, h.only.trans ho (by simp; omega), h.hg, h.lo1, h.lo2, h.lo3⟩
theorem do_start (w : World) {g : Nat} {d r : Dk} (h : HasD w g d) (hl : r.keys.length = 16) (kd ini rs ky : Int) (kp : Bool) :
    DoW w (((w.alloc (.cells r.cells 41)).alloc (.cells #[.int .i64 kd, .int .i64 ini, .int .i64 rs, .int .u64 ky, .bool kp] 45)).alloc (.cells Dk.new.cells 41)) g w.heap.size (w.heap.size + 1) (w.heap.size + 2) d r Dk.new kd ini rs ky kp := by
  have s1 : (w.alloc (.cells r.cells 41)).heap.size = w.heap.size + 1 := by show (w.heap.push _).size = _; simp
  have s2 : ((w.alloc (.cells r.cells 41)).alloc (.cells #[.int .i64 kd, .int .i64 ini, .int .i64 rs, .int .u64 ky, .bool kp] 45)).heap.size = w.heap.size + 2 := by show ((w.heap.push _).push _).size = _; simp
  have ho : Only [g] w (((w.alloc (.cells r.cells 41)).alloc (.cells #[.int .i64 kd, .int .i64 ini, .int .i64 rs, .int .u64 ky, .bool kp] 45)).alloc (.cells Dk.new.cells 41)) := (((Only.refl [g] w).alloc_ _).alloc_ _).alloc_ _
  refine ⟨h.kept ((((Only.refl [] w).alloc_ _).alloc_ _).alloc_ _) (by simp), ⟨?_, hl⟩, ?_, ⟨?_, rfl⟩, ho, h.lt, Nat.le_refl _, by omega, by omega⟩
  · rw [heap_alloc_old _ _ (by rw [s2]; omega)]; exact heap_alloc2_old w _ _
  · rw [heap_alloc_old _ _ (by rw [s2]; omega)]; exact heap_alloc2_new w _ _
  · have := heap_alloc_new ((w.alloc (.cells r.cells 41)).alloc (.cells #[.int .i64 kd, .int .i64 ini, .int .i64 rs, .int .u64 ky, .bool kp] 45)) (.cells Dk.new.cells 41)
    rw [s2] at this
    exact this
end
set_option maxRecDepth 100000 in
set_option maxHeartbeats 4000000 in
theorem do_1 (g : Nat) (d r : Dk) (ini rs ky : Int) (kp : Bool) (w : World) (h : HasD w g d) (hl : r.keys.length = 16) :
    Calls Try.prog 18 #[.pointer (some ⟨g, 0, none⟩), .agg r.cells, .agg #[.int .i64 1, .int .i64 ini, .int .i64 rs, .int .u64 ky, .bool kp]] w fun e w' => e = .returned (.tuple #[.int .i64 (d.regE ini), .int .i64 (r.regE ini), .agg (r.reg ini ky kp).cells]) ∧ HasD w' g (d.reg ini ky kp) ∧ Only [g] w w' := by
  obtain ⟨fs, hu⟩ := u41
  have HU := Lib.hid hu
  have HLL : Hid ((r.reg ini ky kp).keys.length = 16) := Lib.hid (reg_len _ _ _ _ hl)
  go_enter Try.func18, Try.ntmps18
  go_upto_region 1 with (fail)
  generalize hw : World.alloc (World.alloc (World.alloc _ _) _) _ = w1
  have T1 : DoW w w1 g w.heap.size (w.heap.size + 1) (w.heap.size + 2) d r Dk.new 1 ini rs ky kp := by rw [← hw]; exact do_start w h hl _ _ _ _ _
  have HD0 := Lib.hid T1
  clear hw T1 h hl hu
  have o0 := HD0.out.op0
  have o1 := HD0.out.op1
  have o2 := HD0.out.op2
  have o3 := HD0.out.op3
  have o4 := HD0.out.op4
  go_wp2_with (fail)
  refine (Register_any g d ini ky kp _ HD0.out.des).mono ?_
  rintro e w2 ⟨rfl, hd2, ho2⟩
  have HD := Lib.hid (HD0.out.onDesk ho2 hd2)
  clear hd2 ho2 HD0 o0 o1 o2 o3 o4
  have o0 := HD.out.op0
  have o1 := HD.out.op1
  have o2 := HD.out.op2
  have o3 := HD.out.op3
  have o4 := HD.out.op4
  go_wp2_with (first | (refine wpList_load_row rfl 41 _ rfl _ rfl 41 _ (0, 0) _ HD.out.box.heap HU.out rfl (info41 HD.out.box.len) ?_))
  refine (rRegister_any r ini ky kp _ HD.out.box.len).mono ?_
  rintro e w3 ⟨rfl, hb3⟩
  have HD' := Lib.hid (HD.out.kept hb3)
  clear hb3 HD o0 o1 o2 o3 o4
  have HD := HD'
  clear HD'
  have o0 := HD.out.op0
  have o1 := HD.out.op1
  have o2 := HD.out.op2
  have o3 := HD.out.op3
  have o4 := HD.out.op4
  go_upto_region 21 with (first | (refine wpList_store_row rfl 41 _ _ rfl _ (r.reg ini ky kp).cells rfl rfl 41 _ HD.out.box.heap (info41 HLL.out) (by rw [cells_size HLL.out, cells_size HD.out.box.len]) (one41 _) ?_))
  have T8 := HD.out.onBox (Only.setRow _) (HD.out.box.setRow (r.reg ini ky kp) HLL.out)
  generalize World.setRow _ _ _ = w8 at *
  clear o0 o1 o2 o3 o4 HD
  have HD := Lib.hid T8
  clear T8
  refine wp_region_still_tail 5 (by kernel_rfl) (by kernel_rfl) ?_
  simp only [List.take_succ_cons, List.take_zero, List.drop_succ_cons, List.drop_zero]
  still_step
  still_step
  refine wpStill_load_row rfl 41 _ rfl _ rfl 41 _ (0, 0) _ HD.out.box.heap HU.out rfl (info41 HD.out.box.len) ?_
  still_step
  still_step
  refine wpStill_nil ?_
  change wpList _ _ _ _ _ (World.drew _)
  refine wpList_store_row rfl 41 _ _ rfl _ _ rfl rfl 41 _ HD.out.drew_.res.heap (info41 HD.out.box.len) (by rw [cells_size HD.out.box.len, cells_size HD.out.res.len]) (one41 _) ?_
  have T9 := HD.out.drew_.onRes (Only.setRow _) (HD.out.drew_.res.setRow _ HD.out.box.len)
  generalize World.setRow _ _ _ = w9 at *
  have HT9 := Lib.hid T9
  clear T9
  go_wp2_with (fail)
  try simp only [Exit.inBlock, Exit.then]
  refine bodyPost_ret (results_ttc rfl _ _ _ 41 _ (0, 0) _ rfl HT9.out.res.heap HU.out rfl (info41 HT9.out.res.len)) rfl ?_
  exact ⟨rfl, HT9.out.des, HT9.out.only⟩
set_option maxRecDepth 100000 in
set_option maxHeartbeats 4000000 in
theorem do_2 (g : Nat) (d r : Dk) (ini rs ky : Int) (kp : Bool) (w : World) (h : HasD w g d) (hl : r.keys.length = 16) :
    Calls Try.prog 18 #[.pointer (some ⟨g, 0, none⟩), .agg r.cells, .agg #[.int .i64 2, .int .i64 ini, .int .i64 rs, .int .u64 ky, .bool kp]] w fun e w' => e = .returned (.tuple #[.int .i64 (d.resE ini rs), .int .i64 (r.resE ini rs), .agg (r.res ini rs).cells]) ∧ HasD w' g (d.res ini rs) ∧ Only [g] w w' := by
  obtain ⟨fs, hu⟩ := u41
  have HU := Lib.hid hu
  have HLL : Hid ((r.res ini rs).keys.length = 16) := Lib.hid (res_len _ _ _ hl)
  go_enter Try.func18, Try.ntmps18
  go_upto_region 1 with (fail)
  generalize hw : World.alloc (World.alloc (World.alloc _ _) _) _ = w1
  have T1 : DoW w w1 g w.heap.size (w.heap.size + 1) (w.heap.size + 2) d r Dk.new 2 ini rs ky kp := by rw [← hw]; exact do_start w h hl _ _ _ _ _
  have HD0 := Lib.hid T1
  clear hw T1 h hl hu
  have o0 := HD0.out.op0
  have o1 := HD0.out.op1
  have o2 := HD0.out.op2
  have o3 := HD0.out.op3
  have o4 := HD0.out.op4
  go_wp2_with (fail)
  refine (Reserve_any g d ini rs _ HD0.out.des).mono ?_
  rintro e w2 ⟨rfl, hd2, ho2⟩
  have HD := Lib.hid (HD0.out.onDesk ho2 hd2)
  clear hd2 ho2 HD0 o0 o1 o2 o3 o4
  have o0 := HD.out.op0
  have o1 := HD.out.op1
  have o2 := HD.out.op2
  have o3 := HD.out.op3
  have o4 := HD.out.op4
  go_wp2_with (first | (refine wpList_load_row rfl 41 _ rfl _ rfl 41 _ (0, 0) _ HD.out.box.heap HU.out rfl (info41 HD.out.box.len) ?_))
  refine (rReserve_any r ini rs _ HD.out.box.len).mono ?_
  rintro e w3 ⟨rfl, hb3⟩
  have HD' := Lib.hid (HD.out.kept hb3)
  clear hb3 HD o0 o1 o2 o3 o4
  have HD := HD'
  clear HD'
  have o0 := HD.out.op0
  have o1 := HD.out.op1
  have o2 := HD.out.op2
  have o3 := HD.out.op3
  have o4 := HD.out.op4
  go_upto_region 21 with (first | (refine wpList_store_row rfl 41 _ _ rfl _ (r.res ini rs).cells rfl rfl 41 _ HD.out.box.heap (info41 HLL.out) (by rw [cells_size HLL.out, cells_size HD.out.box.len]) (one41 _) ?_))
  have T8 := HD.out.onBox (Only.setRow _) (HD.out.box.setRow (r.res ini rs) HLL.out)
  generalize World.setRow _ _ _ = w8 at *
  clear o0 o1 o2 o3 o4 HD
  have HD := Lib.hid T8
  clear T8
  refine wp_region_still_tail 5 (by kernel_rfl) (by kernel_rfl) ?_
  simp only [List.take_succ_cons, List.take_zero, List.drop_succ_cons, List.drop_zero]
  still_step
  still_step
  refine wpStill_load_row rfl 41 _ rfl _ rfl 41 _ (0, 0) _ HD.out.box.heap HU.out rfl (info41 HD.out.box.len) ?_
  still_step
  still_step
  refine wpStill_nil ?_
  change wpList _ _ _ _ _ (World.drew _)
  refine wpList_store_row rfl 41 _ _ rfl _ _ rfl rfl 41 _ HD.out.drew_.res.heap (info41 HD.out.box.len) (by rw [cells_size HD.out.box.len, cells_size HD.out.res.len]) (one41 _) ?_
  have T9 := HD.out.drew_.onRes (Only.setRow _) (HD.out.drew_.res.setRow _ HD.out.box.len)
  generalize World.setRow _ _ _ = w9 at *
  have HT9 := Lib.hid T9
  clear T9
  go_wp2_with (fail)
  try simp only [Exit.inBlock, Exit.then]
  refine bodyPost_ret (results_ttc rfl _ _ _ 41 _ (0, 0) _ rfl HT9.out.res.heap HU.out rfl (info41 HT9.out.res.len)) rfl ?_
  exact ⟨rfl, HT9.out.des, HT9.out.only⟩
set_option maxRecDepth 100000 in
set_option maxHeartbeats 4000000 in
theorem do_3 (g : Nat) (d r : Dk) (ini rs ky : Int) (kp : Bool) (w : World) (h : HasD w g d) (hl : r.keys.length = 16) :
    Calls Try.prog 18 #[.pointer (some ⟨g, 0, none⟩), .agg r.cells, .agg #[.int .i64 3, .int .i64 ini, .int .i64 rs, .int .u64 ky, .bool kp]] w fun e w' => e = .returned (.tuple #[.int .i64 (d.relE ini), .int .i64 (r.relE ini), .agg (r.rel ini).cells]) ∧ HasD w' g (d.rel ini) ∧ Only [g] w w' := by
  obtain ⟨fs, hu⟩ := u41
  have HU := Lib.hid hu
  have HLL : Hid ((r.rel ini).keys.length = 16) := Lib.hid (rel_len _ _ hl)
  go_enter Try.func18, Try.ntmps18
  go_upto_region 1 with (fail)
  generalize hw : World.alloc (World.alloc (World.alloc _ _) _) _ = w1
  have T1 : DoW w w1 g w.heap.size (w.heap.size + 1) (w.heap.size + 2) d r Dk.new 3 ini rs ky kp := by rw [← hw]; exact do_start w h hl _ _ _ _ _
  have HD0 := Lib.hid T1
  clear hw T1 h hl hu
  have o0 := HD0.out.op0
  have o1 := HD0.out.op1
  have o2 := HD0.out.op2
  have o3 := HD0.out.op3
  have o4 := HD0.out.op4
  go_wp2_with (fail)
  refine (Release_any g d ini _ HD0.out.des).mono ?_
  rintro e w2 ⟨rfl, hd2, ho2⟩
  have HD := Lib.hid (HD0.out.onDesk ho2 hd2)
  clear hd2 ho2 HD0 o0 o1 o2 o3 o4
  have o0 := HD.out.op0
  have o1 := HD.out.op1
  have o2 := HD.out.op2
  have o3 := HD.out.op3
  have o4 := HD.out.op4
  go_wp2_with (first | (refine wpList_load_row rfl 41 _ rfl _ rfl 41 _ (0, 0) _ HD.out.box.heap HU.out rfl (info41 HD.out.box.len) ?_))
  refine (rRelease_any r ini _ HD.out.box.len).mono ?_
  rintro e w3 ⟨rfl, hb3⟩
  have HD' := Lib.hid (HD.out.kept hb3)
  clear hb3 HD o0 o1 o2 o3 o4
  have HD := HD'
  clear HD'
  have o0 := HD.out.op0
  have o1 := HD.out.op1
  have o2 := HD.out.op2
  have o3 := HD.out.op3
  have o4 := HD.out.op4
  go_upto_region 21 with (first | (refine wpList_store_row rfl 41 _ _ rfl _ (r.rel ini).cells rfl rfl 41 _ HD.out.box.heap (info41 HLL.out) (by rw [cells_size HLL.out, cells_size HD.out.box.len]) (one41 _) ?_))
  have T8 := HD.out.onBox (Only.setRow _) (HD.out.box.setRow (r.rel ini) HLL.out)
  generalize World.setRow _ _ _ = w8 at *
  clear o0 o1 o2 o3 o4 HD
  have HD := Lib.hid T8
  clear T8
  refine wp_region_still_tail 5 (by kernel_rfl) (by kernel_rfl) ?_
  simp only [List.take_succ_cons, List.take_zero, List.drop_succ_cons, List.drop_zero]
  still_step
  still_step
  refine wpStill_load_row rfl 41 _ rfl _ rfl 41 _ (0, 0) _ HD.out.box.heap HU.out rfl (info41 HD.out.box.len) ?_
  still_step
  still_step
  refine wpStill_nil ?_
  change wpList _ _ _ _ _ (World.drew _)
  refine wpList_store_row rfl 41 _ _ rfl _ _ rfl rfl 41 _ HD.out.drew_.res.heap (info41 HD.out.box.len) (by rw [cells_size HD.out.box.len, cells_size HD.out.res.len]) (one41 _) ?_
  have T9 := HD.out.drew_.onRes (Only.setRow _) (HD.out.drew_.res.setRow _ HD.out.box.len)
  generalize World.setRow _ _ _ = w9 at *
  have HT9 := Lib.hid T9
  clear T9
  go_wp2_with (fail)
  try simp only [Exit.inBlock, Exit.then]
  refine bodyPost_ret (results_ttc rfl _ _ _ 41 _ (0, 0) _ rfl HT9.out.res.heap HU.out rfl (info41 HT9.out.res.len)) rfl ?_
  exact ⟨rfl, HT9.out.des, HT9.out.only⟩
set_option maxRecDepth 100000 in
set_option maxHeartbeats 4000000 in
theorem do_4 (g : Nat) (d r : Dk) (ini rs ky : Int) (kp : Bool) (w : World) (h : HasD w g d) (hl : r.keys.length = 16) :
    Calls Try.prog 18 #[.pointer (some ⟨g, 0, none⟩), .agg r.cells, .agg #[.int .i64 4, .int .i64 ini, .int .i64 rs, .int .u64 ky, .bool kp]] w fun e w' => e = .returned (.tuple #[.int .i64 (d.fault ini), .int .i64 (r.fault ini), .agg (r.clr ini).cells]) ∧ HasD w' g (d.clr ini) ∧ Only [g] w w' := by
  obtain ⟨fs, hu⟩ := u41
  have HU := Lib.hid hu
  have HLL : Hid ((r.clr ini).keys.length = 16) := Lib.hid (clr_len _ _ hl)
  go_enter Try.func18, Try.ntmps18
  go_upto_region 1 with (fail)
  generalize hw : World.alloc (World.alloc (World.alloc _ _) _) _ = w1
  have T1 : DoW w w1 g w.heap.size (w.heap.size + 1) (w.heap.size + 2) d r Dk.new 4 ini rs ky kp := by rw [← hw]; exact do_start w h hl _ _ _ _ _
  have HD0 := Lib.hid T1
  clear hw T1 h hl hu
  have o0 := HD0.out.op0
  have o1 := HD0.out.op1
  have o2 := HD0.out.op2
  have o3 := HD0.out.op3
  have o4 := HD0.out.op4
  go_wp2_with (fail)
  refine (Clear_any g d ini _ HD0.out.des).mono ?_
  rintro e w2 ⟨rfl, hd2, ho2⟩
  have HD := Lib.hid (HD0.out.onDesk ho2 hd2)
  clear hd2 ho2 HD0 o0 o1 o2 o3 o4
  have o0 := HD.out.op0
  have o1 := HD.out.op1
  have o2 := HD.out.op2
  have o3 := HD.out.op3
  have o4 := HD.out.op4
  go_wp2_with (first | (refine wpList_load_row rfl 41 _ rfl _ rfl 41 _ (0, 0) _ HD.out.box.heap HU.out rfl (info41 HD.out.box.len) ?_))
  refine (rClear_any r ini _ HD.out.box.len).mono ?_
  rintro e w3 ⟨rfl, hb3⟩
  have HD' := Lib.hid (HD.out.kept hb3)
  clear hb3 HD o0 o1 o2 o3 o4
  have HD := HD'
  clear HD'
  have o0 := HD.out.op0
  have o1 := HD.out.op1
  have o2 := HD.out.op2
  have o3 := HD.out.op3
  have o4 := HD.out.op4
  go_upto_region 21 with (first | (refine wpList_store_row rfl 41 _ _ rfl _ (r.clr ini).cells rfl rfl 41 _ HD.out.box.heap (info41 HLL.out) (by rw [cells_size HLL.out, cells_size HD.out.box.len]) (one41 _) ?_))
  have T8 := HD.out.onBox (Only.setRow _) (HD.out.box.setRow (r.clr ini) HLL.out)
  generalize World.setRow _ _ _ = w8 at *
  clear o0 o1 o2 o3 o4 HD
  have HD := Lib.hid T8
  clear T8
  refine wp_region_still_tail 5 (by kernel_rfl) (by kernel_rfl) ?_
  simp only [List.take_succ_cons, List.take_zero, List.drop_succ_cons, List.drop_zero]
  still_step
  still_step
  refine wpStill_load_row rfl 41 _ rfl _ rfl 41 _ (0, 0) _ HD.out.box.heap HU.out rfl (info41 HD.out.box.len) ?_
  still_step
  still_step
  refine wpStill_nil ?_
  change wpList _ _ _ _ _ (World.drew _)
  refine wpList_store_row rfl 41 _ _ rfl _ _ rfl rfl 41 _ HD.out.drew_.res.heap (info41 HD.out.box.len) (by rw [cells_size HD.out.box.len, cells_size HD.out.res.len]) (one41 _) ?_
  have T9 := HD.out.drew_.onRes (Only.setRow _) (HD.out.drew_.res.setRow _ HD.out.box.len)
  generalize World.setRow _ _ _ = w9 at *
  have HT9 := Lib.hid T9
  clear T9
  go_wp2_with (fail)
  try simp only [Exit.inBlock, Exit.then]
  refine bodyPost_ret (results_ttc rfl _ _ _ 41 _ (0, 0) _ rfl HT9.out.res.heap HU.out rfl (info41 HT9.out.res.len)) rfl ?_
  exact ⟨rfl, HT9.out.des, HT9.out.only⟩
set_option maxRecDepth 100000 in
set_option maxHeartbeats 4000000 in
theorem do_5 (g : Nat) (d r : Dk) (ini rs ky : Int) (kp : Bool) (w : World) (h : HasD w g d) (hl : r.keys.length = 16) (hinv : r.kind ≠ 0 → isIn r.holder) :
    Calls Try.prog 18 #[.pointer (some ⟨g, 0, none⟩), .agg r.cells, .agg #[.int .i64 5, .int .i64 ini, .int .i64 rs, .int .u64 ky, .bool kp]] w fun e w' => e = .returned (.tuple #[.int .i64 (d.preE ini ky), .int .i64 (r.preE ini ky), .agg (r.pre ini ky).cells]) ∧ HasD w' g (d.pre ini ky) ∧ Only [g] w w' := by
  obtain ⟨fs, hu⟩ := u41
  have HU := Lib.hid hu
  have HINV := Lib.hid hinv
  clear hinv
  have HLL : Hid ((r.pre ini ky).keys.length = 16) := Lib.hid (pre_len _ _ _ hl)
  go_enter Try.func18, Try.ntmps18
  go_upto_region 1 with (fail)
  generalize hw : World.alloc (World.alloc (World.alloc _ _) _) _ = w1
  have T1 : DoW w w1 g w.heap.size (w.heap.size + 1) (w.heap.size + 2) d r Dk.new 5 ini rs ky kp := by rw [← hw]; exact do_start w h hl _ _ _ _ _
  have HD0 := Lib.hid T1
  clear hw T1 h hl hu
  have o0 := HD0.out.op0
  have o1 := HD0.out.op1
  have o2 := HD0.out.op2
  have o3 := HD0.out.op3
  have o4 := HD0.out.op4
  go_wp2_with (fail)
  refine (Preempt_any g d ini ky _ HD0.out.des).mono ?_
  rintro e w2 ⟨rfl, hd2, ho2⟩
  have HD := Lib.hid (HD0.out.onDesk ho2 hd2)
  clear hd2 ho2 HD0 o0 o1 o2 o3 o4
  have o0 := HD.out.op0
  have o1 := HD.out.op1
  have o2 := HD.out.op2
  have o3 := HD.out.op3
  have o4 := HD.out.op4
  go_wp2_with (first | (refine wpList_load_row rfl 41 _ rfl _ rfl 41 _ (0, 0) _ HD.out.box.heap HU.out rfl (info41 HD.out.box.len) ?_))
  refine (rPreempt_any r ini ky _ HD.out.box.len HINV.out).mono ?_
  rintro e w3 ⟨rfl, hb3⟩
  have HD' := Lib.hid (HD.out.kept hb3)
  clear hb3 HD o0 o1 o2 o3 o4
  have HD := HD'
  clear HD'
  have o0 := HD.out.op0
  have o1 := HD.out.op1
  have o2 := HD.out.op2
  have o3 := HD.out.op3
  have o4 := HD.out.op4
  go_upto_region 21 with (first | (refine wpList_store_row rfl 41 _ _ rfl _ (r.pre ini ky).cells rfl rfl 41 _ HD.out.box.heap (info41 HLL.out) (by rw [cells_size HLL.out, cells_size HD.out.box.len]) (one41 _) ?_))
  have T8 := HD.out.onBox (Only.setRow _) (HD.out.box.setRow (r.pre ini ky) HLL.out)
  generalize World.setRow _ _ _ = w8 at *
  clear o0 o1 o2 o3 o4 HD
  have HD := Lib.hid T8
  clear T8
  refine wp_region_still_tail 5 (by kernel_rfl) (by kernel_rfl) ?_
  simp only [List.take_succ_cons, List.take_zero, List.drop_succ_cons, List.drop_zero]
  still_step
  still_step
  refine wpStill_load_row rfl 41 _ rfl _ rfl 41 _ (0, 0) _ HD.out.box.heap HU.out rfl (info41 HD.out.box.len) ?_
  still_step
  still_step
  refine wpStill_nil ?_
  change wpList _ _ _ _ _ (World.drew _)
  refine wpList_store_row rfl 41 _ _ rfl _ _ rfl rfl 41 _ HD.out.drew_.res.heap (info41 HD.out.box.len) (by rw [cells_size HD.out.box.len, cells_size HD.out.res.len]) (one41 _) ?_
  have T9 := HD.out.drew_.onRes (Only.setRow _) (HD.out.drew_.res.setRow _ HD.out.box.len)
  generalize World.setRow _ _ _ = w9 at *
  have HT9 := Lib.hid T9
  clear T9
  go_wp2_with (fail)
  try simp only [Exit.inBlock, Exit.then]
  refine bodyPost_ret (results_ttc rfl _ _ _ 41 _ (0, 0) _ rfl HT9.out.res.heap HU.out rfl (info41 HT9.out.res.len)) rfl ?_
  exact ⟨rfl, HT9.out.des, HT9.out.only⟩
set_option maxRecDepth 100000 in
set_option maxHeartbeats 4000000 in
theorem do_6 (g : Nat) (d r : Dk) (ini rs ky : Int) (kp : Bool) (w : World) (h : HasD w g d) (hl : r.keys.length = 16) :
    Calls Try.prog 18 #[.pointer (some ⟨g, 0, none⟩), .agg r.cells, .agg #[.int .i64 6, .int .i64 ini, .int .i64 rs, .int .u64 ky, .bool kp]] w fun e w' => e = .returned (.tuple #[.int .i64 0, .int .i64 0, .agg (r.lose).cells]) ∧ HasD w' g (d.lose) ∧ Only [g] w w' := by
  obtain ⟨fs, hu⟩ := u41
  have HU := Lib.hid hu
  have HLL : Hid (r.lose.keys.length = 16) := Lib.hid (lose_len _ hl)
  go_enter Try.func18, Try.ntmps18
  go_upto_region 1 with (fail)
  generalize hw : World.alloc (World.alloc (World.alloc _ _) _) _ = w1
  have T1 : DoW w w1 g w.heap.size (w.heap.size + 1) (w.heap.size + 2) d r Dk.new 6 ini rs ky kp := by rw [← hw]; exact do_start w h hl _ _ _ _ _
  have HD0 := Lib.hid T1
  clear hw T1 h hl hu
  have o0 := HD0.out.op0
  have o1 := HD0.out.op1
  have o2 := HD0.out.op2
  have o3 := HD0.out.op3
  have o4 := HD0.out.op4
  go_wp2_with (fail)
  refine (Lose_any g d _ HD0.out.des).mono ?_
  rintro e w2 ⟨rfl, hd2, ho2⟩
  have HD := Lib.hid (HD0.out.onDesk ho2 hd2)
  clear hd2 ho2 HD0 o0 o1 o2 o3 o4
  have o0 := HD.out.op0
  have o1 := HD.out.op1
  have o2 := HD.out.op2
  have o3 := HD.out.op3
  have o4 := HD.out.op4
  go_wp2_with (first | (refine wpList_load_row rfl 41 _ rfl _ rfl 41 _ (0, 0) _ HD.out.box.heap HU.out rfl (info41 HD.out.box.len) ?_))
  refine (rLose_any r _ HD.out.box.len).mono ?_
  rintro e w3 ⟨rfl, hb3⟩
  have HD' := Lib.hid (HD.out.kept hb3)
  clear hb3 HD o0 o1 o2 o3 o4
  have HD := HD'
  clear HD'
  have o0 := HD.out.op0
  have o1 := HD.out.op1
  have o2 := HD.out.op2
  have o3 := HD.out.op3
  have o4 := HD.out.op4
  go_upto_region 21 with (first | (refine wpList_store_row rfl 41 _ _ rfl _ r.lose.cells rfl rfl 41 _ HD.out.box.heap (info41 HLL.out) (by rw [cells_size HLL.out, cells_size HD.out.box.len]) (one41 _) ?_))
  have T8 := HD.out.onBox (Only.setRow _) (HD.out.box.setRow r.lose HLL.out)
  generalize World.setRow _ _ _ = w8 at *
  clear o0 o1 o2 o3 o4 HD
  have HD := Lib.hid T8
  clear T8
  refine wp_region_still_tail 5 (by kernel_rfl) (by kernel_rfl) ?_
  simp only [List.take_succ_cons, List.take_zero, List.drop_succ_cons, List.drop_zero]
  still_step
  still_step
  refine wpStill_load_row rfl 41 _ rfl _ rfl 41 _ (0, 0) _ HD.out.box.heap HU.out rfl (info41 HD.out.box.len) ?_
  still_step
  still_step
  refine wpStill_nil ?_
  change wpList _ _ _ _ _ (World.drew _)
  refine wpList_store_row rfl 41 _ _ rfl _ _ rfl rfl 41 _ HD.out.drew_.res.heap (info41 HD.out.box.len) (by rw [cells_size HD.out.box.len, cells_size HD.out.res.len]) (one41 _) ?_
  have T9 := HD.out.drew_.onRes (Only.setRow _) (HD.out.drew_.res.setRow _ HD.out.box.len)
  generalize World.setRow _ _ _ = w9 at *
  have HT9 := Lib.hid T9
  clear T9
  go_wp2_with (fail)
  try simp only [Exit.inBlock, Exit.then]
  refine bodyPost_ret (results_ttc rfl _ _ _ 41 _ (0, 0) _ rfl HT9.out.res.heap HU.out rfl (info41 HT9.out.res.len)) rfl ?_
  exact ⟨rfl, HT9.out.des, HT9.out.only⟩
set_option maxRecDepth 100000 in
set_option maxHeartbeats 4000000 in
theorem do_else (g : Nat) (d r : Dk) (kd ini rs ky : Int) (kp : Bool) (w : World) (h : HasD w g d) (hl : r.keys.length = 16) (n1 : ¬ kd = 1) (n2 : ¬ kd = 2) (n3 : ¬ kd = 3) (n4 : ¬ kd = 4) (n5 : ¬ kd = 5) (n6 : ¬ kd = 6) :
    Calls Try.prog 18 #[.pointer (some ⟨g, 0, none⟩), .agg r.cells, .agg #[.int .i64 kd, .int .i64 ini, .int .i64 rs, .int .u64 ky, .bool kp]] w fun e w' => e = .returned (.tuple #[.int .i64 0, .int .i64 0, .agg r.cells]) ∧ HasD w' g d ∧ Only [g] w w' := by
  obtain ⟨fs, hu⟩ := u41
  have HU := Lib.hid hu
  have m1 := bF n1
  have m2 := bF n2
  have m3 := bF n3
  have m4 := bF n4
  have m5 := bF n5
  have m6 := bF n6
  clear n1 n2 n3 n4 n5 n6
  go_enter Try.func18, Try.ntmps18
  go_upto_region 1 with (fail)
  generalize hw : World.alloc (World.alloc (World.alloc _ _) _) _ = w1
  have T1 : DoW w w1 g w.heap.size (w.heap.size + 1) (w.heap.size + 2) d r Dk.new kd ini rs ky kp := by rw [← hw]; exact do_start w h hl _ _ _ _ _
  have HD0 := Lib.hid T1
  clear hw T1 h hl hu
  have o0 := HD0.out.op0
  have o1 := HD0.out.op1
  have o2 := HD0.out.op2
  have o3 := HD0.out.op3
  have o4 := HD0.out.op4
  have HD := HD0
  clear HD0
  go_upto_region 21 with (fail)
  clear o0 o1 o2 o3 o4
  refine wp_region_still_tail 5 (by kernel_rfl) (by kernel_rfl) ?_
  simp only [List.take_succ_cons, List.take_zero, List.drop_succ_cons, List.drop_zero]
  still_step
  still_step
  refine wpStill_load_row rfl 41 _ rfl _ rfl 41 _ (0, 0) _ HD.out.box.heap HU.out rfl (info41 HD.out.box.len) ?_
  still_step
  still_step
  refine wpStill_nil ?_
  change wpList _ _ _ _ _ (World.drew _)
  refine wpList_store_row rfl 41 _ _ rfl _ _ rfl rfl 41 _ HD.out.drew_.res.heap (info41 HD.out.box.len) (by rw [cells_size HD.out.box.len, cells_size HD.out.res.len]) (one41 _) ?_
  have T9 := HD.out.drew_.onRes (Only.setRow _) (HD.out.drew_.res.setRow _ HD.out.box.len)
  generalize World.setRow _ _ _ = w9 at *
  have HT9 := Lib.hid T9
  clear T9
  go_wp2_with (fail)
  try simp only [Exit.inBlock, Exit.then]
  refine bodyPost_ret (results_ttc rfl _ _ _ 41 _ (0, 0) _ rfl HT9.out.res.heap HU.out rfl (info41 HT9.out.res.len)) rfl ?_
  exact ⟨rfl, HT9.out.des, HT9.out.only⟩
/-- A step's answer, and the desk behind it. -/
def Dk.stepE (d : Dk) (kd ini rs ky : Int) : Int := if kd = 1 then d.regE ini else if kd = 2 then d.resE ini rs else if kd = 3 then d.relE ini else if kd = 4 then d.fault ini else if kd = 5 then d.preE ini ky else 0
def Dk.step (d : Dk) (kd ini rs ky : Int) (kp : Bool) : Dk := if kd = 1 then d.reg ini ky kp else if kd = 2 then d.res ini rs else if kd = 3 then d.rel ini else if kd = 4 then d.clr ini else if kd = 5 then d.pre ini ky else if kd = 6 then d.lose else d
theorem step_len (d : Dk) (kd ini rs ky : Int) (kp : Bool) (hl : d.keys.length = 16) : (d.step kd ini rs ky kp).keys.length = 16 := by
  unfold Dk.step
  split; exact reg_len _ _ _ _ hl
  split; exact res_len _ _ _ hl
  split; exact rel_len _ _ hl
  split; exact clr_len _ _ hl
  split; exact pre_len _ _ _ hl
  split; exact lose_len _ hl
  exact hl
theorem do_any (g : Nat) (d r : Dk) (kd ini rs ky : Int) (kp : Bool) (w : World) (h : HasD w g d) (hl : r.keys.length = 16) (hinv : r.kind ≠ 0 → isIn r.holder) :
    Calls Try.prog 18 #[.pointer (some ⟨g, 0, none⟩), .agg r.cells, .agg #[.int .i64 kd, .int .i64 ini, .int .i64 rs, .int .u64 ky, .bool kp]] w fun e w' =>
      e = .returned (.tuple #[.int .i64 (d.stepE kd ini rs ky), .int .i64 (r.stepE kd ini rs ky), .agg (r.step kd ini rs ky kp).cells]) ∧ HasD w' g (d.step kd ini rs ky kp) ∧ Only [g] w w' := by
  by_cases n1 : kd = 1
  · subst n1; exact do_1 g d r ini rs ky kp w h hl
  by_cases n2 : kd = 2
  · subst n2; exact do_2 g d r ini rs ky kp w h hl
  by_cases n3 : kd = 3
  · subst n3; exact do_3 g d r ini rs ky kp w h hl
  by_cases n4 : kd = 4
  · subst n4; exact do_4 g d r ini rs ky kp w h hl
  by_cases n5 : kd = 5
  · subst n5; exact do_5 g d r ini rs ky kp w h hl hinv
  by_cases n6 : kd = 6
  · subst n6; exact do_6 g d r ini rs ky kp w h hl
  have e1 : ∀ x : Dk, x.stepE kd ini rs ky = 0 := fun x => by unfold Dk.stepE; rw [if_neg n1, if_neg n2, if_neg n3, if_neg n4, if_neg n5]
  have e2 : ∀ x : Dk, x.step kd ini rs ky kp = x := fun x => by unfold Dk.step; rw [if_neg n1, if_neg n2, if_neg n3, if_neg n4, if_neg n5, if_neg n6]
  rw [e1, e1, e2, e2]
  exact do_else g d r kd ini rs ky kp w h hl n1 n2 n3 n4 n5 n6
end Go.Proofs.Ytiemlpkkbfojfaa.Res
