/- A unit in memory; New, Sector, and what a nil unit answers. -/
import Derived.Test.YtjpdjhmajjbgmaaGat
import Derived.Deep.MidRow
import Derived.Laws.MakeOwn
import Derived.Deep.RegionHeld3
import Derived.OrdersHeld
set_option linter.unusedVariables false
set_option linter.unusedSimpArgs false
namespace Go.Proofs.Ytjpdjhmajjbgmaa.Md
open Go.RowKit Res
open Wd (Cmd u8s balloc)
/-- A unit at block g: its desk at gd, its n sectors at gs. -/
structure HasU (w : World) (g gd gs : Nat) (d : Dk) (n : Nat) (bs : List Int) : Prop where
  u : w.heap[g]? = some (.cells #[.pointer (some ⟨gd, 0, none⟩), .slice (some ⟨gs, 0, none⟩) n n] 60 (0, 0))
  d : HasD w gd d
  s : w.heap[gs]? = some (.cells (u8s bs).toArray 24 (0, 0))
  len : bs.length = n * 16
  lo : 1 ≤ n
  hi : n ≤ 65536
section
variable {w w' : World} {g gd gs n : Nat} {d d' : Dk} {bs : List Int}
theorem HasU.ne (h : HasU w g gd gs d n bs) : g ≠ gd ∧ g ≠ gs ∧ gd ≠ gs := by
  refine ⟨?_, ?_, ?_⟩
  · rintro rfl
    have := h.u.symm.trans h.d.heap
    injection this with this
    injection this with _ h2
    simp at h2
  · rintro rfl
    have := h.u.symm.trans h.s
    injection this with this
    injection this with _ h2
    simp at h2
  · rintro rfl
    have := h.d.heap.symm.trans h.s
    injection this with this
    injection this with _ h2
    simp at h2
theorem HasU.kept {S : List Nat} (h : HasU w g gd gs d n bs) (ho : Only S w w') (h1 : g ∉ S) (h2 : gd ∉ S) (h3 : gs ∉ S) : HasU w' g gd gs d n bs :=
  ⟨(ho.block g (lt_of_heap h.u) h1).trans h.u, h.d.kept ho h2, (ho.block gs (lt_of_heap h.s) h3).trans h.s, h.len, h.lo, h.hi⟩
theorem HasU.below (h : HasU w g gd gs d n bs) (hb : Below w.heap.size w w') : HasU w' g gd gs d n bs := h.kept (Only.of_below hb []) (by simp) (by simp) (by simp)
theorem HasU.desk (h : HasU w g gd gs d n bs) (ho : Only [gd] w w') (hd : HasD w' gd d') : HasU w' g gd gs d' n bs :=
  ⟨(ho.block g (lt_of_heap h.u) (by simp; exact h.ne.1)).trans h.u, hd, (ho.block gs (lt_of_heap h.s) (by simp; exact fun e => h.ne.2.2 e.symm)).trans h.s, h.len, h.lo, h.hi⟩
theorem HasU.pcell (h : HasU w g gd gs d n bs) : w.cell? ⟨g, 0, none⟩ = some (.pointer (some ⟨gd, 0, none⟩)) := by rw [cell_of_heap h.u]; rfl
theorem HasU.scell (h : HasU w g gd gs d n bs) : w.cell? ⟨g, 1, none⟩ = some (.slice (some ⟨gs, 0, none⟩) n n) := by rw [cell_of_heap h.u]; rfl
end
/-- Sector i. -/
def sec (bs : List Int) (i : Nat) : List Int := (bs.drop (i * 16)).take 16
def zsec : List Int := List.replicate 16 0
theorem sec_len {bs : List Int} {n i : Nat} (h : bs.length = n * 16) (hi : i < n) : (sec bs i).length = 16 := by unfold sec; simp; omega
theorem HasU.range {w : World} {g gd gs n : Nat} {d : Dk} {bs : List Int} (h : HasU w g gd gs d n bs) {i : Nat} (hi : i < n) : w.rangeAt gs (i * 16) (u8s (sec bs i)) := by
  intro j v hv
  have hl := sec_len h.len hi
  have hj : j < 16 := by have := (List.getElem?_eq_some_iff.1 hv).1; unfold u8s at this; rw [List.length_map, hl] at this; exact this
  rw [cell_of_heap h.s, List.getElem?_toArray]
  unfold u8s sec at *
  rw [List.getElem?_map, List.getElem?_take_of_lt hj, List.getElem?_drop] at hv
  rw [List.getElem?_map]
  exact hv
theorem info24 : (Try.prog.info? 24).map (·.size) = some 16 := by kernel_rfl
theorem mk16 (n : Nat) (hn : n ≤ 65536) (W : World) : (Instr.makeSlice 22 (.int .i64 (n : Int)) (.int .i64 (n : Int))).run Try.prog W = .ok (.slice (some ⟨W.heap.size, 0, none⟩) n n) (W.alloc (.cells (u8s (List.replicate (n * 16) 0)).toArray 24)) := by
  obtain ⟨i0, hi0, hz0, hz1, hz2⟩ := info_parts Wd.info41
  have h := run_makeSlice (P := Try.prog) (w := W) 22 24 i0 _ Try.underlying22 hi0 hz0 .i64 .i64 (n : Int) (n : Int) (by omega) (Int.le_refl _) (by rw [hz1]; omega) (by rw [hz2]; omega) (by omega)
  rw [Int.toNat_natCast, hz1] at h
  have e : madeCells (Value.agg (Array.replicate 16 (.int .u8 0))).cells (n * 16) = (u8s (List.replicate (n * 16) 0)).toArray := by
    apply Array.ext
    · rw [size_madeCells]; simp [u8s]
    · intro j h1 h2
      have h3 : j % 16 < 16 := Nat.mod_lt _ (by decide)
      have h4 : (Array.replicate 16 (Value.int .u8 0))[j % 16]! = Value.int .u8 0 := by rw [getElem!_pos _ _ (by simpa using h3)]; simp
      simp [madeCells, u8s, Value.cells]
      exact h4
  rw [e] at h
  exact h
theorem results_2 {P : Program} {fn : Func} {a b : Tmp} (h : fn.results = #[.tmp a, .tmp b]) (tmps : Array Value) (w : World) :
    (results fn tmps).run P w = .ok (.tuple #[tmps.getD a undef, tmps.getD b undef]) w := by
  simp [results, h]
/-- What New has laid. -/
def NPost (w : World) (n : Nat) (e : Ending) (w' : World) : Prop :=
  ∃ g gd gs, e = .returned (.tuple #[.pointer (some ⟨g, 0, none⟩), .int .i64 0]) ∧ HasU w' g gd gs Dk.new n (List.replicate (n * 16) 0) ∧ w.heap.size ≤ g ∧ w.heap.size ≤ gd ∧ w.heap.size ≤ gs ∧ Below w.heap.size w w'
theorem n_end {w : World} {n : Nat} (h1 : 1 ≤ n) (h2 : n ≤ 65536) :
    NPost w n (.returned (.tuple #[.pointer (some ⟨w.heap.size + 1 + 1, 0, none⟩), .int .i64 0])) (((w.drew.alloc (.cells Dk.new.cells 68)).alloc (.cells (u8s (List.replicate (n * 16) 0)).toArray 24)).alloc (.cells #[.pointer (some ⟨w.heap.size, 0, none⟩), .slice (some ⟨w.heap.size + 1, 0, none⟩) n n] 60)) ∧
    NPost w n (.returned (.tuple #[.pointer (some ⟨w.heap.size + 1 + 1, 0, none⟩), .int .i64 0])) (((w.drew.alloc (.cells (u8s (List.replicate (n * 16) 0)).toArray 24)).alloc (.cells Dk.new.cells 68)).alloc (.cells #[.pointer (some ⟨w.heap.size + 1, 0, none⟩), .slice (some ⟨w.heap.size, 0, none⟩) n n] 60)) := by
  have key : ∀ a b c : Obj, Below w.heap.size w (((w.drew.alloc a).alloc b).alloc c) := fun a b c => (Below.refl w.heap.size w).drew.trans (show Below w.heap.size w.drew _ from Wd.three_below w.drew a b c)
  have f0 : ∀ a b c : Obj, (((w.drew.alloc a).alloc b).alloc c).heap[w.heap.size]? = some a := fun a b c => Wd.three_first w.drew a b c
  have f1 : ∀ a b c : Obj, (((w.drew.alloc a).alloc b).alloc c).heap[w.heap.size + 1]? = some b := fun a b c => Wd.three_mid w.drew a b c
  have f2 : ∀ a b c : Obj, (((w.drew.alloc a).alloc b).alloc c).heap[w.heap.size + 1 + 1]? = some c := fun a b c => Wd.three_last w.drew a b c
  have hdl : Dk.new.keys.length = 16 := by simp [Dk.new]
  have hbl : (List.replicate (n * 16) (0 : Int)).length = n * 16 := List.length_replicate
  exact ⟨⟨_, _, _, rfl, ⟨f2 _ _ _, ⟨f0 _ _ _, hdl⟩, f1 _ _ _, hbl, h1, h2⟩, by omega, by omega, by omega, key _ _ _⟩, ⟨_, _, _, rfl, ⟨f2 _ _ _, ⟨f1 _ _ _, hdl⟩, f0 _ _ _, hbl, h1, h2⟩, by omega, by omega, by omega, key _ _ _⟩⟩
set_option maxRecDepth 100000 in
set_option maxHeartbeats 4000000 in
theorem new_unit (n : Nat) (h1 : 1 ≤ n) (h2 : n ≤ 65536) (w : World) : Calls Try.prog 8 #[.int .i64 (n : Int)] w (NPost w n) := by
  have HE := Lib.hid (n_end (w := w) h1 h2)
  have hmk := mk16 n h2
  have e1 : ¬ ((n : Int) < 1) := by omega
  have e2 : ¬ ((65536 : Int) < (n : Int)) := by omega
  generalize (u8s (List.replicate (n * 16) 0)).toArray = Z at *
  generalize hD : Dk.new.cells = D at *
  have HN := Lib.hid (fun W => new_any W)
  rw [hD] at HN
  go_enter Try.func8, Try.ntmps8
  go_upto_region 3 with (fail)
  refine wp_region_held_drew (S := fun _ => True) (by kernel_rfl) trivial (fun hS => ?_)
  refine wpAnyH_take (i := 1) (v := ?_) rfl (by kernel_rfl) (by kernel_rfl) (by kernel_rfl) (fun _ _ _ h => h) (Or.inl ⟨by rfl, ?_⟩) hS ?_
  rotate_left
  · intro w' hSw; go_simp; try rfl
  try simp only [Act.put, List.getElem_toArray, List.getElem_cons_succ, List.getElem_cons_zero, List.setIfInBounds_toArray, List.set_cons_zero, List.set_cons_succ]
  refine wpAnyH_ready (rs := [0, 2]) (by kernel_rfl) (by simp) ?_
  refine AllReadyH.cons rfl (fun K hK => ?_) ?_
  · go_simp
    refine (HN.out _).mono ?_
    rintro e wa ⟨rfl, rfl⟩
    go_wp2_with (fail)
    refine hK.out _ _ trivial (fun hU => ?_)
    clear hK K hU
    try simp only [Act.put, List.getElem_toArray, List.getElem_cons_succ, List.getElem_cons_zero, List.setIfInBounds_toArray, List.set_cons_zero, List.set_cons_succ]
    refine wpAnyH_ready (rs := [2]) (by kernel_rfl) (by simp) ?_
    refine AllReadyH.cons rfl (fun K hK => ?_) AllReadyH.nil
    go_simp
    refine hK.out _ _ trivial (fun hU => ?_)
    clear hK K hU
    try simp only [Act.put, List.getElem_toArray, List.getElem_cons_succ, List.getElem_cons_zero, List.setIfInBounds_toArray, List.set_cons_zero, List.set_cons_succ]
    refine wpAnyH_take (i := 3) (v := .agg #[.pointer (some ⟨w.heap.size, 0, none⟩), .slice (some ⟨w.heap.size + 1, 0, none⟩) n n]) rfl (by kernel_rfl) (by kernel_rfl) (by kernel_rfl) (fun _ _ _ h => h) (Or.inl ⟨by rfl, fun w' hSw => ?_⟩) hS ?_
    · go_simp; try rfl
    try simp only [Act.put, List.getElem_toArray, List.getElem_cons_succ, List.getElem_cons_zero, List.setIfInBounds_toArray, List.set_cons_zero, List.set_cons_succ]
    refine wpAnyH_ready (rs := [4]) (by kernel_rfl) (by simp) ?_
    refine AllReadyH.cons rfl (fun K hK => ?_) AllReadyH.nil
    go_simp
    refine hK.out _ _ trivial (fun hU => ?_)
    clear hK K hU
    try simp only [Act.put, List.getElem_toArray, List.getElem_cons_succ, List.getElem_cons_zero, List.setIfInBounds_toArray, List.set_cons_zero, List.set_cons_succ]
    refine wpAnyH_take (i := 5) (v := ?_) rfl (by kernel_rfl) (by kernel_rfl) (by kernel_rfl) (fun _ _ _ h => h) (Or.inl ⟨by rfl, ?_⟩) hS ?_
    rotate_left
    · intro w' hSw; go_simp; try rfl
    try simp only [Act.put, List.getElem_toArray, List.getElem_cons_succ, List.getElem_cons_zero, List.setIfInBounds_toArray, List.set_cons_zero, List.set_cons_succ]
    refine wpAnyH_take (i := 6) (v := ?_) rfl (by kernel_rfl) (by kernel_rfl) (by kernel_rfl) (fun _ _ _ h => h) (Or.inl ⟨by rfl, ?_⟩) hS ?_
    rotate_left
    · intro w' hSw; go_simp; try rfl
    try simp only [Act.put, List.getElem_toArray, List.getElem_cons_succ, List.getElem_cons_zero, List.setIfInBounds_toArray, List.set_cons_zero, List.set_cons_succ]
    refine wpAnyH_done (by kernel_rfl) ?_ _
    go_wp2_with (fail)
    refine bodyPost_ret (results_2 rfl _ _) rfl ?_
    exact HE.out.1
  refine AllReadyH.cons rfl (fun K hK => ?_) AllReadyH.nil
  go_simp
  refine hK.out _ _ trivial (fun hU => ?_)
  clear hK K hU
  try simp only [Act.put, List.getElem_toArray, List.getElem_cons_succ, List.getElem_cons_zero, List.setIfInBounds_toArray, List.set_cons_zero, List.set_cons_succ]
  refine wpAnyH_ready (rs := [0]) (by kernel_rfl) (by simp) ?_
  refine AllReadyH.cons rfl (fun K hK => ?_) AllReadyH.nil
  go_simp
  refine (HN.out _).mono ?_
  rintro e wa ⟨rfl, rfl⟩
  go_wp2_with (fail)
  refine hK.out _ _ trivial (fun hU => ?_)
  clear hK K hU
  try simp only [Act.put, List.getElem_toArray, List.getElem_cons_succ, List.getElem_cons_zero, List.setIfInBounds_toArray, List.set_cons_zero, List.set_cons_succ]
  refine wpAnyH_take (i := 3) (v := .agg #[.pointer (some ⟨w.heap.size + 1, 0, none⟩), .slice (some ⟨w.heap.size, 0, none⟩) n n]) rfl (by kernel_rfl) (by kernel_rfl) (by kernel_rfl) (fun _ _ _ h => h) (Or.inl ⟨by rfl, fun w' hSw => ?_⟩) hS ?_
  · go_simp; try rfl
  try simp only [Act.put, List.getElem_toArray, List.getElem_cons_succ, List.getElem_cons_zero, List.setIfInBounds_toArray, List.set_cons_zero, List.set_cons_succ]
  refine wpAnyH_ready (rs := [4]) (by kernel_rfl) (by simp) ?_
  refine AllReadyH.cons rfl (fun K hK => ?_) AllReadyH.nil
  go_simp
  refine hK.out _ _ trivial (fun hU => ?_)
  clear hK K hU
  try simp only [Act.put, List.getElem_toArray, List.getElem_cons_succ, List.getElem_cons_zero, List.setIfInBounds_toArray, List.set_cons_zero, List.set_cons_succ]
  refine wpAnyH_take (i := 5) (v := ?_) rfl (by kernel_rfl) (by kernel_rfl) (by kernel_rfl) (fun _ _ _ h => h) (Or.inl ⟨by rfl, ?_⟩) hS ?_
  rotate_left
  · intro w' hSw; go_simp; try rfl
  try simp only [Act.put, List.getElem_toArray, List.getElem_cons_succ, List.getElem_cons_zero, List.setIfInBounds_toArray, List.set_cons_zero, List.set_cons_succ]
  refine wpAnyH_take (i := 6) (v := ?_) rfl (by kernel_rfl) (by kernel_rfl) (by kernel_rfl) (fun _ _ _ h => h) (Or.inl ⟨by rfl, ?_⟩) hS ?_
  rotate_left
  · intro w' hSw; go_simp; try rfl
  try simp only [Act.put, List.getElem_toArray, List.getElem_cons_succ, List.getElem_cons_zero, List.setIfInBounds_toArray, List.set_cons_zero, List.set_cons_succ]
  refine wpAnyH_done (by kernel_rfl) ?_ _
  go_wp2_with (fail)
  refine bodyPost_ret (results_2 rfl _ _) rfl ?_
  exact HE.out.2
theorem results_ct2 {P : Program} {fn : Func} {p u : Tmp} {ty : TypeId} (h : fn.results = #[.cell p ty, .tmp u]) (tmps : Array Value) (w : World) (g : Nat) (t : TypeId) (cs : Array Value) (fr : Nat × Nat) (d : TypeDesc)
    (hp : tmps.getD p undef = .pointer (some ⟨g, 0, none⟩)) (hg : w.heap[g]? = some (.cells cs t fr))
    (hu : P.underlying ty = some d) (hd : (match d with | .struct _ | .array _ _ => true | _ => false) = true) (hi : (P.info? ty).map (·.size) = some cs.size) :
    (results fn tmps).run P w = .ok (.tuple #[.agg cs, tmps.getD u undef]) w := results_ct h tmps w g t cs fr d hp hg hu hd hi
/-- A sector's value. -/
def sval (l : List Int) : Value := .agg (u8s l).toArray
theorem u8s_all (l : List Int) : (u8s l).toArray.all (·.oneCell') = true := all_oneCell_toArray (Wd.u8s_one l)
theorem u8s_len (l : List Int) : (u8s l).length = l.length := by unfold u8s; simp
set_option maxRecDepth 100000 in
set_option maxHeartbeats 4000000 in
theorem sector_in (g gd gs : Nat) (d : Dk) (n i : Nat) (bs : List Int) (w : World) (h : HasU w g gd gs d n bs) (hi : i < n) :
    Calls Try.prog 11 #[.pointer (some ⟨g, 0, none⟩), .int .i64 (i : Int)] w fun e w' => e = .returned (.tuple #[sval (sec bs i), .int .i64 0]) ∧ Below w.heap.size w w' := by
  have hB := balloc w (.cells #[Value.int .u8 0, .int .u8 0, .int .u8 0, .int .u8 0, .int .u8 0, .int .u8 0, .int .u8 0, .int .u8 0, .int .u8 0, .int .u8 0, .int .u8 0, .int .u8 0, .int .u8 0, .int .u8 0, .int .u8 0, .int .u8 0] 24)
  have hU := h.below hB
  have hc := hU.scell
  have hr := hU.range hi
  have hl := sec_len h.len hi
  have hnew : (w.alloc (.cells #[Value.int .u8 0, .int .u8 0, .int .u8 0, .int .u8 0, .int .u8 0, .int .u8 0, .int .u8 0, .int .u8 0, .int .u8 0, .int .u8 0, .int .u8 0, .int .u8 0, .int .u8 0, .int .u8 0, .int .u8 0, .int .u8 0] 24)).heap[w.heap.size]? = some (.cells #[Value.int .u8 0, .int .u8 0, .int .u8 0, .int .u8 0, .int .u8 0, .int .u8 0, .int .u8 0, .int .u8 0, .int .u8 0, .int .u8 0, .int .u8 0, .int .u8 0, .int .u8 0, .int .u8 0, .int .u8 0, .int .u8 0] 24 (0, 0)) := heap_alloc_new w _
  have hn := h.hi
  have HB := Lib.hid hB
  have hiI : (i : Int) < (n : Int) := by omega
  have hiN : ¬ ((n : Int) ≤ (i : Int)) := by omega
  have h0 : ¬ ((i : Int) < 0) := by omega
  generalize hsx : sec bs i = sx at *
  clear hU h hB hsx
  have hlen : (u8s sx).toArray.size = 16 := by simp [u8s_len, hl]
  have hsz : (Try.prog.info? 24).map (·.size) = some (u8s sx).toArray.size := by rw [hlen]; exact info24
  have hsl : (Try.prog.info? 24).map (·.size) = some (u8s sx).length := by rw [u8s_len, hl]; exact info24
  have hold : #[Value.int .u8 0, .int .u8 0, .int .u8 0, .int .u8 0, .int .u8 0, .int .u8 0, .int .u8 0, .int .u8 0, .int .u8 0, .int .u8 0, .int .u8 0, .int .u8 0, .int .u8 0, .int .u8 0, .int .u8 0, .int .u8 0].size = (u8s sx).toArray.size := by rw [hlen]; rfl
  have hrow := Wd.heap_setRow hnew (u8s sx).toArray
  unfold sval
  go_enter Try.func11, Try.ntmps11
  go_wp2_with (first
    | (refine wpList_load_mid rfl 24 _ rfl gs (i * 16) (by first | rfl | (simp; done) | (simp; omega)) _ _ hr Try.underlying24 rfl hsl ?_)
    | (refine wpList_store_row rfl 24 _ _ rfl w.heap.size _ rfl rfl 24 _ hnew hsz hold (u8s_all _) ?_))
  refine bodyPost_ret (results_ct rfl _ _ w.heap.size 24 _ (0, 0) _ rfl hrow Try.underlying24 rfl hsz) rfl ?_
  exact ⟨rfl, Only.below HB.out (Only.setRow (g := w.heap.size) _) HB.out.size (by simp)⟩
set_option maxRecDepth 100000 in
set_option maxHeartbeats 4000000 in
theorem lose_nil (w : World) : Calls Try.prog 15 #[.pointer none] w fun e w' => e = .returned (.tuple #[]) ∧ w' = w := by
  go_enter Try.func15, Try.ntmps15
  go_wp2_with (fail)
  go_end0
  exact ⟨rfl, rfl⟩
theorem zsec_eq : (u8s zsec).toArray = #[Value.int .u8 0, Value.int .u8 0, Value.int .u8 0, Value.int .u8 0, Value.int .u8 0, Value.int .u8 0, Value.int .u8 0, Value.int .u8 0, Value.int .u8 0, Value.int .u8 0, Value.int .u8 0, Value.int .u8 0, Value.int .u8 0, Value.int .u8 0, Value.int .u8 0, Value.int .u8 0] := rfl
theorem zsec_one : (#[Value.int .u8 0, Value.int .u8 0, Value.int .u8 0, Value.int .u8 0, Value.int .u8 0, Value.int .u8 0, Value.int .u8 0, Value.int .u8 0, Value.int .u8 0, Value.int .u8 0, Value.int .u8 0, Value.int .u8 0, Value.int .u8 0, Value.int .u8 0, Value.int .u8 0, Value.int .u8 0]).all (·.oneCell') = true := by simp [Value.oneCell']
set_option maxRecDepth 100000 in
set_option maxHeartbeats 4000000 in
theorem sector_nil (i : Int) (w : World) : Calls Try.prog 11 #[.pointer none, .int .i64 i] w fun e w' => e = .returned (.tuple #[sval zsec, .int .i64 2]) ∧ Below w.heap.size w w' := by
  have hB := balloc w (.cells #[Value.int .u8 0, Value.int .u8 0, Value.int .u8 0, Value.int .u8 0, Value.int .u8 0, Value.int .u8 0, Value.int .u8 0, Value.int .u8 0, Value.int .u8 0, Value.int .u8 0, Value.int .u8 0, Value.int .u8 0, Value.int .u8 0, Value.int .u8 0, Value.int .u8 0, Value.int .u8 0] 24)
  have HB := Lib.hid hB
  have hnew : (w.alloc (.cells #[Value.int .u8 0, Value.int .u8 0, Value.int .u8 0, Value.int .u8 0, Value.int .u8 0, Value.int .u8 0, Value.int .u8 0, Value.int .u8 0, Value.int .u8 0, Value.int .u8 0, Value.int .u8 0, Value.int .u8 0, Value.int .u8 0, Value.int .u8 0, Value.int .u8 0, Value.int .u8 0] 24)).heap[w.heap.size]? = some (.cells #[Value.int .u8 0, Value.int .u8 0, Value.int .u8 0, Value.int .u8 0, Value.int .u8 0, Value.int .u8 0, Value.int .u8 0, Value.int .u8 0, Value.int .u8 0, Value.int .u8 0, Value.int .u8 0, Value.int .u8 0, Value.int .u8 0, Value.int .u8 0, Value.int .u8 0, Value.int .u8 0] 24 (0, 0)) := heap_alloc_new w _
  clear hB
  unfold sval
  rw [zsec_eq]
  go_enter Try.func11, Try.ntmps11
  go_wp2_with (first
    | (refine wpList_store_row rfl 24 _ _ rfl w.heap.size _ rfl rfl 24 _ hnew (by kernel_rfl) rfl zsec_one ?_))
  refine bodyPost_ret (results_ct rfl _ _ w.heap.size 24 _ (0, 0) _ rfl (Wd.heap_setRow hnew _) Try.underlying24 rfl (by kernel_rfl)) rfl ?_
  exact ⟨rfl, Only.below HB.out (Only.setRow (g := w.heap.size) _) HB.out.size (by simp)⟩
set_option maxRecDepth 100000 in
set_option maxHeartbeats 4000000 in
theorem do_nil (ini : Int) (c : Cmd) (A : Option Addr) (n0 cp : Nat) (w : World) : Calls Try.prog 10 #[.pointer none, .int .i64 ini, c.val (.slice A n0 cp)] w fun e w' => e = .returned (.agg (rep 2 2)) ∧ Below w.heap.size w w' := by
  have hB := Wd.two_below w (.cells (Cmd.arr c (.slice A n0 cp)) 35) (.cells (rep 0 0) 31)
  have hX := Bx.start w c (.slice A n0 cp)
  have HB := Lib.hid hB
  have hy0 := hX.rp
  clear hX hB
  obtain ⟨kind, lba, count, n, bs, key, res, keep⟩ := c
  unfold Cmd.arr rep at *
  simp only at *
  unfold Cmd.val
  go_enter Try.func10, Try.ntmps10
  go_wp2_with (first
    | (refine wpList_store_row rfl 31 _ _ rfl (w.heap.size + 1) _ rfl rfl 31 _ hy0 (by kernel_rfl) rfl (rep_one' _ _) ?_))
  refine bodyPost_ret (results_cell_row rfl _ _ (w.heap.size + 1) 31 _ (0, 0) _ rfl (Wd.heap_setRow hy0 _) Try.underlying31 rfl (by kernel_rfl)) rfl ?_
  exact ⟨rfl, Only.below HB.out (Only.setRow (g := w.heap.size + 1) _) HB.out.size (by simp)⟩
end Go.Proofs.Ytjpdjhmajjbgmaa.Md
