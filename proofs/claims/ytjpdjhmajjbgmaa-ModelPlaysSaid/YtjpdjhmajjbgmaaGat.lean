/- model.Gate, walked. -/
import Derived.Test.YtjpdjhmajjbgmaaPreempt
import Derived.Test.YtjpdjhmajjbgmaaChk
import Derived.Test.YtjpdjhmajjbgmaaSec
set_option linter.unusedVariables false
set_option linter.unusedSimpArgs false
namespace Go.Proofs.Ytjpdjhmajjbgmaa.Md
open Go.RowKit Res
open Wd (Cmd)
/-- A reply: its state and sense, without data. -/
def rep (st se : Int) : Array Value := #[.int .i64 st, .int .i64 se, .slice none 0 0]
theorem results_ct {P : Program} {fn : Func} {p u : Tmp} {ty : TypeId} (h : fn.results = #[.cell p ty, .tmp u]) (tmps : Array Value) (w : World) (g : Nat) (t : TypeId) (cs : Array Value) (fr : Nat × Nat) (d : TypeDesc)
    (hp : tmps.getD p undef = .pointer (some ⟨g, 0, none⟩)) (hg : w.heap[g]? = some (.cells cs t fr))
    (hu : P.underlying ty = some d) (hd : (match d with | .struct _ | .array _ _ => true | _ => false) = true) (hi : (P.info? ty).map (·.size) = some cs.size) :
    (results fn tmps).run P w = .ok (.tuple #[.agg cs, tmps.getD u undef]) w := by
  have hp' : tmps[p]?.getD undef = .pointer (some ⟨g, 0, none⟩) := by simpa using hp
  simp [results, h, hp', asAddr, run_loadVar_row w g t ty cs fr d hg hu hd hi]
def Cmd.arr (c : Cmd) (dv : Value) : Array Value := #[.int .i64 c.kind, .int .i64 c.lba, .int .i64 c.count, dv, .int .u64 c.key, .int .i64 c.res, .bool c.keep]
/-- The state, the sense, whether that is all; the desk behind. -/
def gateS (d : Dk) (cap ini : Int) (c : Cmd) : Int × Int × Bool :=
  if ¬ isIn ini ∨ ¬ c.chk cap = 0 then (2, 5, true)
  else if c.kind = 2 then (3, 0, !d.may ini false)
  else if c.kind = 3 ∨ c.kind = 5 ∨ c.kind = 6 then (3, 0, !d.may ini true)
  else if c.kind = 7 then (if d.regE ini = 0 then (1, 0, true) else (3, 0, true))
  else if c.kind = 8 then (if d.resE ini c.res = 0 then (1, 0, true) else (3, 0, true))
  else if c.kind = 9 then (if d.relE ini = 0 then (1, 0, true) else (3, 0, true))
  else if c.kind = 10 then (if d.fault ini = 0 then (1, 0, true) else (3, 0, true))
  else if c.kind = 11 then (if d.preE ini c.key = 0 then (1, 0, true) else (3, 0, true))
  else (0, 0, false)
def gateD (d : Dk) (cap ini : Int) (c : Cmd) : Dk :=
  if ¬ isIn ini ∨ ¬ c.chk cap = 0 then d
  else if c.kind = 7 then d.reg ini c.key c.keep
  else if c.kind = 8 then d.res ini c.res
  else if c.kind = 9 then d.rel ini
  else if c.kind = 10 then d.clr ini
  else if c.kind = 11 then d.pre ini c.key
  else d
/-- What Gate answers. -/
def GPost (w : World) (gd : Nat) (s : Int × Int × Bool) (d : Dk) (e : Ending) (w' : World) : Prop :=
  e = .returned (.tuple #[.agg (rep s.1 s.2.1), .bool s.2.2]) ∧ HasD w' gd d ∧ Only [gd] w w'
theorem ini_cases (ini : Int) : (ini < 0 ∧ ¬ isIn ini) ∨ (¬ ini < 0 ∧ 16 ≤ ini ∧ ¬ isIn ini) ∨ (¬ ini < 0 ∧ ¬ 16 ≤ ini ∧ isIn ini) := by
  by_cases h0 : ini < 0
  · exact .inl ⟨h0, fun h => by have := h.1; omega⟩
  · by_cases h1 : 16 ≤ ini
    · exact .inr (.inl ⟨h0, h1, fun h => by have := h.2; omega⟩)
    · exact .inr (.inr ⟨h0, h1, ⟨by omega, by omega⟩⟩)
theorem info31 : (Try.prog.info? 31).map (·.size) = some 3 := by kernel_rfl
theorem rep_one (st se : Int) : (rep st se).all (·.oneCell') = true := by simp [rep, Value.oneCell']
theorem rep_one' (st se : Int) : (#[.int .i64 st, .int .i64 se, .slice none 0 0] : Array Value).all (·.oneCell') = true := by simp [Value.oneCell']
theorem Only.setRow {w : World} {g : Nat} (cs : Array Value) : Only [g] w (w.setRow g cs) := by
  have h := Wd.Only.setRow (w := w) (g := g) cs
  exact ⟨h.os, h.tape, h.output, h.size, h.block⟩
/-- The two boxes of a call of Gate. -/
structure Bx (w W : World) (c : Cmd) (dv : Value) : Prop where
  cm : W.heap[w.heap.size]? = some (.cells (Cmd.arr c dv) 35 (0, 0))
  rp : W.heap[w.heap.size + 1]? = some (.cells (rep 0 0) 31 (0, 0))
theorem Bx.kept {w W W' : World} {c : Cmd} {dv : Value} (h : Bx w W c dv) {S : List Nat} (ho : Only S W W') (hS : ∀ k ∈ S, k < w.heap.size) : Bx w W' c dv :=
  ⟨(ho.block _ (lt_of_heap h.cm) (fun hm => by have := hS _ hm; omega)).trans h.cm, (ho.block _ (lt_of_heap h.rp) (fun hm => by have := hS _ hm; omega)).trans h.rp⟩
theorem Bx.start (w : World) (c : Cmd) (dv : Value) : Bx w ((w.alloc (.cells (Cmd.arr c dv) 35)).alloc (.cells (rep 0 0) 31)) c dv := ⟨Wd.two_first _ _ _, Wd.two_last _ _ _⟩
theorem Bx.cells {w W : World} {c : Cmd} {dv : Value} (h : Bx w W c dv) : W.cell? ⟨w.heap.size, 0, none⟩ = some (.int .i64 c.kind) ∧ W.cell? ⟨w.heap.size, 4, none⟩ = some (.int .u64 c.key) ∧ W.cell? ⟨w.heap.size, 5, none⟩ = some (.int .i64 c.res) ∧ W.cell? ⟨w.heap.size, 6, none⟩ = some (.bool c.keep) := by
  refine ⟨?_, ?_, ?_, ?_⟩ <;> (rw [cell_of_heap h.cm]; rfl)
theorem g_end {w W : World} {gd : Nat} {d : Dk} (hg : gd < w.heap.size) (h : HasD W gd d) (ho : Only [gd] w W) (cs : Array Value) : HasD (W.setRow (w.heap.size + 1) cs) gd d ∧ Only [gd] w (W.setRow (w.heap.size + 1) cs) :=
  ⟨h.kept (Only.setRow cs) (by simp; omega), ho.trans (Only.setRow cs) (fun x hx => .inr (by simp at hx; omega))⟩
set_option maxRecDepth 100000 in
set_option maxHeartbeats 4000000 in
theorem gate_bad (gd : Nat) (d : Dk) (cap ini : Int) (c : Cmd) (dv : Value) (w : World) (h : HasD w gd d) (hs : Wd.Secs w dv c) (hc : (Lit.int .i64 cap).wf = true) (hbad : ¬ isIn ini ∨ ¬ c.chk cap = 0) :
    Calls Try.prog 19 #[.pointer (some ⟨gd, 0, none⟩), .int .i64 cap, .int .i64 ini, c.val dv] w (GPost w gd (2, 5, true) d) := by
  have hB := Wd.two_below w (.cells (Cmd.arr c dv) 35) (.cells (rep 0 0) 31)
  have hX := Bx.start w c dv
  have CK := Lib.hid (Wd.check_any c dv cap _ (hs.below hB) hc)
  have HG := Lib.hid h.lt
  have hbr : ∀ W, Below w.heap.size w W → HasD W gd d ∧ Only [gd] w W := fun W hW => ⟨h.kept (Only.of_below hW []) (by simp), Only.of_below hW _⟩
  have HBR := Lib.hid hbr
  have HB := Lib.hid hB
  have HX := Lib.hid hX
  have hy0 := hX.rp
  obtain ⟨A, n0, cp, rfl⟩ : ∃ A n0 cp, dv = .slice A n0 cp := by
    obtain ⟨_, A, cp, h1, _⟩ := hs; exact ⟨A, _, cp, h1⟩
  clear hX hB h hbr hs
  have hxc : isIn ini → ¬ c.chk cap = 0 := fun h => hbad.elim (fun h2 => absurd h h2) id
  generalize hch : c.chk cap = X at *
  clear hbad hch
  obtain ⟨kind, lba, count, n, bs, key, res, keep⟩ := c
  unfold Cmd.arr rep at *
  simp only at *
  unfold Cmd.val at *
  obtain ⟨hD, hO⟩ := HBR.out _ HB.out
  have HD := Lib.hid hD
  have HO := Lib.hid hO
  clear hD hO
  rcases ini_cases ini with ⟨i1, i2⟩ | ⟨i1, i2, i3⟩ | ⟨i1, i2, i3⟩
  · clear CK i2 hxc
    go_enter Try.func19, Try.ntmps19
    go_wp2_with (first
      | (refine wpList_store_row rfl 31 _ _ rfl (w.heap.size + 1) _ rfl rfl 31 _ hy0 (by kernel_rfl) rfl (rep_one' _ _) ?_))
    refine bodyPost_ret (results_ct rfl _ _ (w.heap.size + 1) 31 _ (0, 0) _ rfl (Wd.heap_setRow hy0 _) Try.underlying31 rfl (by kernel_rfl)) rfl ?_
    exact ⟨rfl, g_end HG.out HD.out HO.out _⟩
  · clear CK i3 hxc
    go_enter Try.func19, Try.ntmps19
    go_wp2_with (first
      | (refine wpList_store_row rfl 31 _ _ rfl (w.heap.size + 1) _ rfl rfl 31 _ hy0 (by kernel_rfl) rfl (rep_one' _ _) ?_))
    refine bodyPost_ret (results_ct rfl _ _ (w.heap.size + 1) 31 _ (0, 0) _ rfl (Wd.heap_setRow hy0 _) Try.underlying31 rfl (by kernel_rfl)) rfl ?_
    exact ⟨rfl, g_end HG.out HD.out HO.out _⟩
  · have hx := hxc i3
    have hxb : ((X : Int) == 0) = false := bF hx
    clear i3 hxc hx hy0
    go_enter Try.func19, Try.ntmps19
    go_wp2_with (fail)
    refine (CK.out).mono ?_
    rintro e w3 ⟨rfl, hb3⟩
    have hy3 := (hb3.block _ (by simp)).trans HX.out.rp
    obtain ⟨hD3, hO3⟩ := HBR.out _ (HB.out.trans (hb3.mono HB.out.size))
    have HD3 := Lib.hid hD3
    have HO3 := Lib.hid hO3
    unfold rep at hy3
    clear hb3 hD3 hO3 CK
    go_wp2_with (first
      | (refine wpList_store_row rfl 31 _ _ rfl (w.heap.size + 1) _ rfl rfl 31 _ hy3 (by kernel_rfl) rfl (rep_one' _ _) ?_))
    refine bodyPost_ret (results_ct rfl _ _ (w.heap.size + 1) 31 _ (0, 0) _ rfl (Wd.heap_setRow hy3 _) Try.underlying31 rfl (by kernel_rfl)) rfl ?_
    exact ⟨rfl, g_end HG.out HD3.out HO3.out _⟩
set_option maxRecDepth 100000 in
set_option maxHeartbeats 4000000 in
theorem gate_2 (gd : Nat) (d : Dk) (cap ini : Int) (c : Cmd) (dv : Value) (w : World) (h : HasD w gd d) (hs : Wd.Secs w dv c) (hc : (Lit.int .i64 cap).wf = true) (hini : isIn ini) (hchk : c.chk cap = 0) (hk : c.kind = 2) :
    Calls Try.prog 19 #[.pointer (some ⟨gd, 0, none⟩), .int .i64 cap, .int .i64 ini, c.val dv] w (GPost w gd (3, 0, !d.may ini false) d) := by
  have hB := Wd.two_below w (.cells (Cmd.arr c dv) 35) (.cells (rep 0 0) 31)
  have hX := Bx.start w c dv
  have CK := Lib.hid (Wd.check_any c dv cap _ (hs.below hB) hc)
  have HG := Lib.hid h.lt
  have hbr : ∀ W, Below w.heap.size w W → HasD W gd d ∧ Only [gd] w W := fun W hW => ⟨h.kept (Only.of_below hW []) (by simp), Only.of_below hW _⟩
  have HBR := Lib.hid hbr
  have HB := Lib.hid hB
  have HX := Lib.hid hX
  have hy0 := hX.rp
  obtain ⟨A, n0, cp, rfl⟩ : ∃ A n0 cp, dv = .slice A n0 cp := by
    obtain ⟨_, A, cp, h1, _⟩ := hs; exact ⟨A, _, cp, h1⟩
  clear hX hB h hbr hs
  obtain ⟨kind, lba, count, n, bs, key, res, keep⟩ := c
  have hc1 := hchk
  simp only at hk
  have i0 : ¬ ini < 0 := fun h => by have := hini.1; omega
  have i1 : ¬ 16 ≤ ini := fun h => by have := hini.2; omega
  have hxb : (((Cmd.mk kind lba count n bs key res keep).chk cap : Int) == 0) = true := bT hc1
  generalize (Cmd.mk kind lba count n bs key res keep).chk cap = X at *
  clear hc1 hchk hini hy0
  unfold Cmd.arr rep at *
  simp only at *
  unfold Cmd.val at *
  subst hk
  go_enter Try.func19, Try.ntmps19
  go_wp2_with (fail)
  refine (CK.out).mono ?_
  rintro e w3 ⟨rfl, hb3⟩
  have hX3 : Bx w w3 _ _ := HX.out.kept (Only.of_below hb3 []) (by simp)
  obtain ⟨ck0, ck4, ck5, ck6⟩ := hX3.cells
  have hy3 := hX3.rp
  obtain ⟨hD3, hO3⟩ := HBR.out _ (HB.out.trans (hb3.mono HB.out.size))
  have HX3 := Lib.hid hX3
  have HD3 := Lib.hid hD3
  have HO3 := Lib.hid hO3
  unfold rep at hy3
  clear hb3 hD3 hO3 CK hX3 HB HX HBR
  simp only at ck0 ck4 ck5 ck6
  have MY := Lib.hid (May_any gd d ini false w3 HD3.out)
  go_wp2_with (fail)
  refine (MY.out).mono ?_
  rintro e w4 ⟨rfl, rfl⟩
  clear MY
  go_wp2_with (first
    | (refine wpList_store_row rfl 31 _ _ rfl (w.heap.size + 1) _ rfl rfl 31 _ hy3 (by kernel_rfl) rfl (rep_one' _ _) ?_))
  refine bodyPost_ret (results_ct rfl _ _ (w.heap.size + 1) 31 _ (0, 0) _ rfl (Wd.heap_setRow hy3 _) Try.underlying31 rfl (by kernel_rfl)) rfl ?_
  exact ⟨rfl, g_end HG.out HD3.out HO3.out _⟩
set_option maxRecDepth 100000 in
set_option maxHeartbeats 4000000 in
theorem gate_3 (gd : Nat) (d : Dk) (cap ini : Int) (c : Cmd) (dv : Value) (w : World) (h : HasD w gd d) (hs : Wd.Secs w dv c) (hc : (Lit.int .i64 cap).wf = true) (hini : isIn ini) (hchk : c.chk cap = 0) (hk : c.kind = 3) :
    Calls Try.prog 19 #[.pointer (some ⟨gd, 0, none⟩), .int .i64 cap, .int .i64 ini, c.val dv] w (GPost w gd (3, 0, !d.may ini true) d) := by
  have hB := Wd.two_below w (.cells (Cmd.arr c dv) 35) (.cells (rep 0 0) 31)
  have hX := Bx.start w c dv
  have CK := Lib.hid (Wd.check_any c dv cap _ (hs.below hB) hc)
  have HG := Lib.hid h.lt
  have hbr : ∀ W, Below w.heap.size w W → HasD W gd d ∧ Only [gd] w W := fun W hW => ⟨h.kept (Only.of_below hW []) (by simp), Only.of_below hW _⟩
  have HBR := Lib.hid hbr
  have HB := Lib.hid hB
  have HX := Lib.hid hX
  have hy0 := hX.rp
  obtain ⟨A, n0, cp, rfl⟩ : ∃ A n0 cp, dv = .slice A n0 cp := by
    obtain ⟨_, A, cp, h1, _⟩ := hs; exact ⟨A, _, cp, h1⟩
  clear hX hB h hbr hs
  obtain ⟨kind, lba, count, n, bs, key, res, keep⟩ := c
  have hc1 := hchk
  simp only at hk
  have i0 : ¬ ini < 0 := fun h => by have := hini.1; omega
  have i1 : ¬ 16 ≤ ini := fun h => by have := hini.2; omega
  have hxb : (((Cmd.mk kind lba count n bs key res keep).chk cap : Int) == 0) = true := bT hc1
  generalize (Cmd.mk kind lba count n bs key res keep).chk cap = X at *
  clear hc1 hchk hini hy0
  unfold Cmd.arr rep at *
  simp only at *
  unfold Cmd.val at *
  subst hk
  go_enter Try.func19, Try.ntmps19
  go_wp2_with (fail)
  refine (CK.out).mono ?_
  rintro e w3 ⟨rfl, hb3⟩
  have hX3 : Bx w w3 _ _ := HX.out.kept (Only.of_below hb3 []) (by simp)
  obtain ⟨ck0, ck4, ck5, ck6⟩ := hX3.cells
  have hy3 := hX3.rp
  obtain ⟨hD3, hO3⟩ := HBR.out _ (HB.out.trans (hb3.mono HB.out.size))
  have HX3 := Lib.hid hX3
  have HD3 := Lib.hid hD3
  have HO3 := Lib.hid hO3
  unfold rep at hy3
  clear hb3 hD3 hO3 CK hX3 HB HX HBR
  simp only at ck0 ck4 ck5 ck6
  have MY := Lib.hid (May_any gd d ini true w3 HD3.out)
  go_wp2_with (fail)
  refine (MY.out).mono ?_
  rintro e w4 ⟨rfl, rfl⟩
  clear MY
  go_wp2_with (first
    | (refine wpList_store_row rfl 31 _ _ rfl (w.heap.size + 1) _ rfl rfl 31 _ hy3 (by kernel_rfl) rfl (rep_one' _ _) ?_))
  refine bodyPost_ret (results_ct rfl _ _ (w.heap.size + 1) 31 _ (0, 0) _ rfl (Wd.heap_setRow hy3 _) Try.underlying31 rfl (by kernel_rfl)) rfl ?_
  exact ⟨rfl, g_end HG.out HD3.out HO3.out _⟩
set_option maxRecDepth 100000 in
set_option maxHeartbeats 4000000 in
theorem gate_5 (gd : Nat) (d : Dk) (cap ini : Int) (c : Cmd) (dv : Value) (w : World) (h : HasD w gd d) (hs : Wd.Secs w dv c) (hc : (Lit.int .i64 cap).wf = true) (hini : isIn ini) (hchk : c.chk cap = 0) (hk : c.kind = 5) :
    Calls Try.prog 19 #[.pointer (some ⟨gd, 0, none⟩), .int .i64 cap, .int .i64 ini, c.val dv] w (GPost w gd (3, 0, !d.may ini true) d) := by
  have hB := Wd.two_below w (.cells (Cmd.arr c dv) 35) (.cells (rep 0 0) 31)
  have hX := Bx.start w c dv
  have CK := Lib.hid (Wd.check_any c dv cap _ (hs.below hB) hc)
  have HG := Lib.hid h.lt
  have hbr : ∀ W, Below w.heap.size w W → HasD W gd d ∧ Only [gd] w W := fun W hW => ⟨h.kept (Only.of_below hW []) (by simp), Only.of_below hW _⟩
  have HBR := Lib.hid hbr
  have HB := Lib.hid hB
  have HX := Lib.hid hX
  have hy0 := hX.rp
  obtain ⟨A, n0, cp, rfl⟩ : ∃ A n0 cp, dv = .slice A n0 cp := by
    obtain ⟨_, A, cp, h1, _⟩ := hs; exact ⟨A, _, cp, h1⟩
  clear hX hB h hbr hs
  obtain ⟨kind, lba, count, n, bs, key, res, keep⟩ := c
  have hc1 := hchk
  simp only at hk
  have i0 : ¬ ini < 0 := fun h => by have := hini.1; omega
  have i1 : ¬ 16 ≤ ini := fun h => by have := hini.2; omega
  have hxb : (((Cmd.mk kind lba count n bs key res keep).chk cap : Int) == 0) = true := bT hc1
  generalize (Cmd.mk kind lba count n bs key res keep).chk cap = X at *
  clear hc1 hchk hini hy0
  unfold Cmd.arr rep at *
  simp only at *
  unfold Cmd.val at *
  subst hk
  go_enter Try.func19, Try.ntmps19
  go_wp2_with (fail)
  refine (CK.out).mono ?_
  rintro e w3 ⟨rfl, hb3⟩
  have hX3 : Bx w w3 _ _ := HX.out.kept (Only.of_below hb3 []) (by simp)
  obtain ⟨ck0, ck4, ck5, ck6⟩ := hX3.cells
  have hy3 := hX3.rp
  obtain ⟨hD3, hO3⟩ := HBR.out _ (HB.out.trans (hb3.mono HB.out.size))
  have HX3 := Lib.hid hX3
  have HD3 := Lib.hid hD3
  have HO3 := Lib.hid hO3
  unfold rep at hy3
  clear hb3 hD3 hO3 CK hX3 HB HX HBR
  simp only at ck0 ck4 ck5 ck6
  have MY := Lib.hid (May_any gd d ini true w3 HD3.out)
  go_wp2_with (fail)
  refine (MY.out).mono ?_
  rintro e w4 ⟨rfl, rfl⟩
  clear MY
  go_wp2_with (first
    | (refine wpList_store_row rfl 31 _ _ rfl (w.heap.size + 1) _ rfl rfl 31 _ hy3 (by kernel_rfl) rfl (rep_one' _ _) ?_))
  refine bodyPost_ret (results_ct rfl _ _ (w.heap.size + 1) 31 _ (0, 0) _ rfl (Wd.heap_setRow hy3 _) Try.underlying31 rfl (by kernel_rfl)) rfl ?_
  exact ⟨rfl, g_end HG.out HD3.out HO3.out _⟩
set_option maxRecDepth 100000 in
set_option maxHeartbeats 4000000 in
theorem gate_6 (gd : Nat) (d : Dk) (cap ini : Int) (c : Cmd) (dv : Value) (w : World) (h : HasD w gd d) (hs : Wd.Secs w dv c) (hc : (Lit.int .i64 cap).wf = true) (hini : isIn ini) (hchk : c.chk cap = 0) (hk : c.kind = 6) :
    Calls Try.prog 19 #[.pointer (some ⟨gd, 0, none⟩), .int .i64 cap, .int .i64 ini, c.val dv] w (GPost w gd (3, 0, !d.may ini true) d) := by
  have hB := Wd.two_below w (.cells (Cmd.arr c dv) 35) (.cells (rep 0 0) 31)
  have hX := Bx.start w c dv
  have CK := Lib.hid (Wd.check_any c dv cap _ (hs.below hB) hc)
  have HG := Lib.hid h.lt
  have hbr : ∀ W, Below w.heap.size w W → HasD W gd d ∧ Only [gd] w W := fun W hW => ⟨h.kept (Only.of_below hW []) (by simp), Only.of_below hW _⟩
  have HBR := Lib.hid hbr
  have HB := Lib.hid hB
  have HX := Lib.hid hX
  have hy0 := hX.rp
  obtain ⟨A, n0, cp, rfl⟩ : ∃ A n0 cp, dv = .slice A n0 cp := by
    obtain ⟨_, A, cp, h1, _⟩ := hs; exact ⟨A, _, cp, h1⟩
  clear hX hB h hbr hs
  obtain ⟨kind, lba, count, n, bs, key, res, keep⟩ := c
  have hc1 := hchk
  simp only at hk
  have i0 : ¬ ini < 0 := fun h => by have := hini.1; omega
  have i1 : ¬ 16 ≤ ini := fun h => by have := hini.2; omega
  have hxb : (((Cmd.mk kind lba count n bs key res keep).chk cap : Int) == 0) = true := bT hc1
  generalize (Cmd.mk kind lba count n bs key res keep).chk cap = X at *
  clear hc1 hchk hini hy0
  unfold Cmd.arr rep at *
  simp only at *
  unfold Cmd.val at *
  subst hk
  go_enter Try.func19, Try.ntmps19
  go_wp2_with (fail)
  refine (CK.out).mono ?_
  rintro e w3 ⟨rfl, hb3⟩
  have hX3 : Bx w w3 _ _ := HX.out.kept (Only.of_below hb3 []) (by simp)
  obtain ⟨ck0, ck4, ck5, ck6⟩ := hX3.cells
  have hy3 := hX3.rp
  obtain ⟨hD3, hO3⟩ := HBR.out _ (HB.out.trans (hb3.mono HB.out.size))
  have HX3 := Lib.hid hX3
  have HD3 := Lib.hid hD3
  have HO3 := Lib.hid hO3
  unfold rep at hy3
  clear hb3 hD3 hO3 CK hX3 HB HX HBR
  simp only at ck0 ck4 ck5 ck6
  have MY := Lib.hid (May_any gd d ini true w3 HD3.out)
  go_wp2_with (fail)
  refine (MY.out).mono ?_
  rintro e w4 ⟨rfl, rfl⟩
  clear MY
  go_wp2_with (first
    | (refine wpList_store_row rfl 31 _ _ rfl (w.heap.size + 1) _ rfl rfl 31 _ hy3 (by kernel_rfl) rfl (rep_one' _ _) ?_))
  refine bodyPost_ret (results_ct rfl _ _ (w.heap.size + 1) 31 _ (0, 0) _ rfl (Wd.heap_setRow hy3 _) Try.underlying31 rfl (by kernel_rfl)) rfl ?_
  exact ⟨rfl, g_end HG.out HD3.out HO3.out _⟩
set_option maxRecDepth 100000 in
set_option maxHeartbeats 4000000 in
theorem gate_7 (gd : Nat) (d : Dk) (cap ini : Int) (c : Cmd) (dv : Value) (w : World) (h : HasD w gd d) (hs : Wd.Secs w dv c) (hc : (Lit.int .i64 cap).wf = true) (hini : isIn ini) (hchk : c.chk cap = 0) (hk : c.kind = 7) (s : Int × Int × Bool) (hst : s = if d.regE ini = 0 then (1, 0, true) else (3, 0, true)) :
    Calls Try.prog 19 #[.pointer (some ⟨gd, 0, none⟩), .int .i64 cap, .int .i64 ini, c.val dv] w (GPost w gd s (d.reg ini c.key c.keep)) := by
  have hB := Wd.two_below w (.cells (Cmd.arr c dv) 35) (.cells (rep 0 0) 31)
  have hX := Bx.start w c dv
  have CK := Lib.hid (Wd.check_any c dv cap _ (hs.below hB) hc)
  have HG := Lib.hid h.lt
  have hbr : ∀ W, Below w.heap.size w W → HasD W gd d ∧ Only [gd] w W := fun W hW => ⟨h.kept (Only.of_below hW []) (by simp), Only.of_below hW _⟩
  have HBR := Lib.hid hbr
  have HB := Lib.hid hB
  have HX := Lib.hid hX
  have hy0 := hX.rp
  obtain ⟨A, n0, cp, rfl⟩ : ∃ A n0 cp, dv = .slice A n0 cp := by
    obtain ⟨_, A, cp, h1, _⟩ := hs; exact ⟨A, _, cp, h1⟩
  clear hX hB h hbr hs
  obtain ⟨kind, lba, count, n, bs, key, res, keep⟩ := c
  have hc1 := hchk
  simp only at hk
  have i0 : ¬ ini < 0 := fun h => by have := hini.1; omega
  have i1 : ¬ 16 ≤ ini := fun h => by have := hini.2; omega
  have hxb : (((Cmd.mk kind lba count n bs key res keep).chk cap : Int) == 0) = true := bT hc1
  generalize (Cmd.mk kind lba count n bs key res keep).chk cap = X at *
  clear hc1 hchk hini hy0
  unfold Cmd.arr rep at *
  simp only at *
  unfold Cmd.val at *
  subst hk
  have HST := Lib.hid hst
  clear hst
  go_enter Try.func19, Try.ntmps19
  go_wp2_with (fail)
  refine (CK.out).mono ?_
  rintro e w3 ⟨rfl, hb3⟩
  have hX3 : Bx w w3 _ _ := HX.out.kept (Only.of_below hb3 []) (by simp)
  obtain ⟨ck0, ck4, ck5, ck6⟩ := hX3.cells
  have hy3 := hX3.rp
  obtain ⟨hD3, hO3⟩ := HBR.out _ (HB.out.trans (hb3.mono HB.out.size))
  have HX3 := Lib.hid hX3
  have HD3 := Lib.hid hD3
  have HO3 := Lib.hid hO3
  unfold rep at hy3
  clear hb3 hD3 hO3 CK hX3 HB HX HBR
  simp only at ck0 ck4 ck5 ck6
  have MY := Lib.hid (Register_any gd d ini key keep w3 HD3.out)
  generalize d.regE ini = er at *
  go_wp2_with (fail)
  refine (MY.out).mono ?_
  rintro e w4 ⟨rfl, hD4, hO4⟩
  have hX4 := HX3.out.kept hO4 (fun k hk => by simp at hk; subst hk; exact HG.out)
  have hy4 := hX4.rp
  have HD4 := Lib.hid hD4
  have HO4 := Lib.hid (HO3.out.trans1 hO4)
  unfold rep at hy4
  clear hD4 hO4 hX4 MY HX3 HD3 HO3 ck0 ck4 ck5 ck6 hy3
  by_cases hz : er = 0
  · subst hz
    obtain rfl : s = (1, 0, true) := HST.out.trans (if_pos rfl)
    go_wp2_with (first
      | (refine wpList_store_row rfl 31 _ _ rfl (w.heap.size + 1) _ rfl rfl 31 _ hy4 (by kernel_rfl) rfl (rep_one' _ _) ?_))
    refine bodyPost_ret (results_ct rfl _ _ (w.heap.size + 1) 31 _ (0, 0) _ rfl (Wd.heap_setRow hy4 _) Try.underlying31 rfl (by kernel_rfl)) rfl ?_
    exact ⟨rfl, g_end HG.out HD4.out HO4.out _⟩
  · obtain rfl : s = (3, 0, true) := HST.out.trans (if_neg hz)
    have hzb : ((er : Int) == 0) = false := bF hz
    clear hz
    go_wp2_with (first
      | (refine wpList_store_row rfl 31 _ _ rfl (w.heap.size + 1) _ rfl rfl 31 _ hy4 (by kernel_rfl) rfl (rep_one' _ _) ?_))
    refine bodyPost_ret (results_ct rfl _ _ (w.heap.size + 1) 31 _ (0, 0) _ rfl (Wd.heap_setRow hy4 _) Try.underlying31 rfl (by kernel_rfl)) rfl ?_
    exact ⟨rfl, g_end HG.out HD4.out HO4.out _⟩
set_option maxRecDepth 100000 in
set_option maxHeartbeats 4000000 in
theorem gate_8 (gd : Nat) (d : Dk) (cap ini : Int) (c : Cmd) (dv : Value) (w : World) (h : HasD w gd d) (hs : Wd.Secs w dv c) (hc : (Lit.int .i64 cap).wf = true) (hini : isIn ini) (hchk : c.chk cap = 0) (hk : c.kind = 8) (s : Int × Int × Bool) (hst : s = if d.resE ini c.res = 0 then (1, 0, true) else (3, 0, true)) :
    Calls Try.prog 19 #[.pointer (some ⟨gd, 0, none⟩), .int .i64 cap, .int .i64 ini, c.val dv] w (GPost w gd s (d.res ini c.res)) := by
  have hB := Wd.two_below w (.cells (Cmd.arr c dv) 35) (.cells (rep 0 0) 31)
  have hX := Bx.start w c dv
  have CK := Lib.hid (Wd.check_any c dv cap _ (hs.below hB) hc)
  have HG := Lib.hid h.lt
  have hbr : ∀ W, Below w.heap.size w W → HasD W gd d ∧ Only [gd] w W := fun W hW => ⟨h.kept (Only.of_below hW []) (by simp), Only.of_below hW _⟩
  have HBR := Lib.hid hbr
  have HB := Lib.hid hB
  have HX := Lib.hid hX
  have hy0 := hX.rp
  obtain ⟨A, n0, cp, rfl⟩ : ∃ A n0 cp, dv = .slice A n0 cp := by
    obtain ⟨_, A, cp, h1, _⟩ := hs; exact ⟨A, _, cp, h1⟩
  clear hX hB h hbr hs
  obtain ⟨kind, lba, count, n, bs, key, res, keep⟩ := c
  have hc1 := hchk
  simp only at hk
  have i0 : ¬ ini < 0 := fun h => by have := hini.1; omega
  have i1 : ¬ 16 ≤ ini := fun h => by have := hini.2; omega
  have hxb : (((Cmd.mk kind lba count n bs key res keep).chk cap : Int) == 0) = true := bT hc1
  generalize (Cmd.mk kind lba count n bs key res keep).chk cap = X at *
  clear hc1 hchk hini hy0
  unfold Cmd.arr rep at *
  simp only at *
  unfold Cmd.val at *
  subst hk
  have HST := Lib.hid hst
  clear hst
  go_enter Try.func19, Try.ntmps19
  go_wp2_with (fail)
  refine (CK.out).mono ?_
  rintro e w3 ⟨rfl, hb3⟩
  have hX3 : Bx w w3 _ _ := HX.out.kept (Only.of_below hb3 []) (by simp)
  obtain ⟨ck0, ck4, ck5, ck6⟩ := hX3.cells
  have hy3 := hX3.rp
  obtain ⟨hD3, hO3⟩ := HBR.out _ (HB.out.trans (hb3.mono HB.out.size))
  have HX3 := Lib.hid hX3
  have HD3 := Lib.hid hD3
  have HO3 := Lib.hid hO3
  unfold rep at hy3
  clear hb3 hD3 hO3 CK hX3 HB HX HBR
  simp only at ck0 ck4 ck5 ck6
  have MY := Lib.hid (Reserve_any gd d ini res w3 HD3.out)
  generalize d.resE ini res = er at *
  go_wp2_with (fail)
  refine (MY.out).mono ?_
  rintro e w4 ⟨rfl, hD4, hO4⟩
  have hX4 := HX3.out.kept hO4 (fun k hk => by simp at hk; subst hk; exact HG.out)
  have hy4 := hX4.rp
  have HD4 := Lib.hid hD4
  have HO4 := Lib.hid (HO3.out.trans1 hO4)
  unfold rep at hy4
  clear hD4 hO4 hX4 MY HX3 HD3 HO3 ck0 ck4 ck5 ck6 hy3
  by_cases hz : er = 0
  · subst hz
    obtain rfl : s = (1, 0, true) := HST.out.trans (if_pos rfl)
    go_wp2_with (first
      | (refine wpList_store_row rfl 31 _ _ rfl (w.heap.size + 1) _ rfl rfl 31 _ hy4 (by kernel_rfl) rfl (rep_one' _ _) ?_))
    refine bodyPost_ret (results_ct rfl _ _ (w.heap.size + 1) 31 _ (0, 0) _ rfl (Wd.heap_setRow hy4 _) Try.underlying31 rfl (by kernel_rfl)) rfl ?_
    exact ⟨rfl, g_end HG.out HD4.out HO4.out _⟩
  · obtain rfl : s = (3, 0, true) := HST.out.trans (if_neg hz)
    have hzb : ((er : Int) == 0) = false := bF hz
    clear hz
    go_wp2_with (first
      | (refine wpList_store_row rfl 31 _ _ rfl (w.heap.size + 1) _ rfl rfl 31 _ hy4 (by kernel_rfl) rfl (rep_one' _ _) ?_))
    refine bodyPost_ret (results_ct rfl _ _ (w.heap.size + 1) 31 _ (0, 0) _ rfl (Wd.heap_setRow hy4 _) Try.underlying31 rfl (by kernel_rfl)) rfl ?_
    exact ⟨rfl, g_end HG.out HD4.out HO4.out _⟩
set_option maxRecDepth 100000 in
set_option maxHeartbeats 4000000 in
theorem gate_9 (gd : Nat) (d : Dk) (cap ini : Int) (c : Cmd) (dv : Value) (w : World) (h : HasD w gd d) (hs : Wd.Secs w dv c) (hc : (Lit.int .i64 cap).wf = true) (hini : isIn ini) (hchk : c.chk cap = 0) (hk : c.kind = 9) (s : Int × Int × Bool) (hst : s = if d.relE ini = 0 then (1, 0, true) else (3, 0, true)) :
    Calls Try.prog 19 #[.pointer (some ⟨gd, 0, none⟩), .int .i64 cap, .int .i64 ini, c.val dv] w (GPost w gd s (d.rel ini)) := by
  have hB := Wd.two_below w (.cells (Cmd.arr c dv) 35) (.cells (rep 0 0) 31)
  have hX := Bx.start w c dv
  have CK := Lib.hid (Wd.check_any c dv cap _ (hs.below hB) hc)
  have HG := Lib.hid h.lt
  have hbr : ∀ W, Below w.heap.size w W → HasD W gd d ∧ Only [gd] w W := fun W hW => ⟨h.kept (Only.of_below hW []) (by simp), Only.of_below hW _⟩
  have HBR := Lib.hid hbr
  have HB := Lib.hid hB
  have HX := Lib.hid hX
  have hy0 := hX.rp
  obtain ⟨A, n0, cp, rfl⟩ : ∃ A n0 cp, dv = .slice A n0 cp := by
    obtain ⟨_, A, cp, h1, _⟩ := hs; exact ⟨A, _, cp, h1⟩
  clear hX hB h hbr hs
  obtain ⟨kind, lba, count, n, bs, key, res, keep⟩ := c
  have hc1 := hchk
  simp only at hk
  have i0 : ¬ ini < 0 := fun h => by have := hini.1; omega
  have i1 : ¬ 16 ≤ ini := fun h => by have := hini.2; omega
  have hxb : (((Cmd.mk kind lba count n bs key res keep).chk cap : Int) == 0) = true := bT hc1
  generalize (Cmd.mk kind lba count n bs key res keep).chk cap = X at *
  clear hc1 hchk hini hy0
  unfold Cmd.arr rep at *
  simp only at *
  unfold Cmd.val at *
  subst hk
  have HST := Lib.hid hst
  clear hst
  go_enter Try.func19, Try.ntmps19
  go_wp2_with (fail)
  refine (CK.out).mono ?_
  rintro e w3 ⟨rfl, hb3⟩
  have hX3 : Bx w w3 _ _ := HX.out.kept (Only.of_below hb3 []) (by simp)
  obtain ⟨ck0, ck4, ck5, ck6⟩ := hX3.cells
  have hy3 := hX3.rp
  obtain ⟨hD3, hO3⟩ := HBR.out _ (HB.out.trans (hb3.mono HB.out.size))
  have HX3 := Lib.hid hX3
  have HD3 := Lib.hid hD3
  have HO3 := Lib.hid hO3
  unfold rep at hy3
  clear hb3 hD3 hO3 CK hX3 HB HX HBR
  simp only at ck0 ck4 ck5 ck6
  have MY := Lib.hid (Release_any gd d ini w3 HD3.out)
  generalize d.relE ini = er at *
  go_wp2_with (fail)
  refine (MY.out).mono ?_
  rintro e w4 ⟨rfl, hD4, hO4⟩
  have hX4 := HX3.out.kept hO4 (fun k hk => by simp at hk; subst hk; exact HG.out)
  have hy4 := hX4.rp
  have HD4 := Lib.hid hD4
  have HO4 := Lib.hid (HO3.out.trans1 hO4)
  unfold rep at hy4
  clear hD4 hO4 hX4 MY HX3 HD3 HO3 ck0 ck4 ck5 ck6 hy3
  by_cases hz : er = 0
  · subst hz
    obtain rfl : s = (1, 0, true) := HST.out.trans (if_pos rfl)
    go_wp2_with (first
      | (refine wpList_store_row rfl 31 _ _ rfl (w.heap.size + 1) _ rfl rfl 31 _ hy4 (by kernel_rfl) rfl (rep_one' _ _) ?_))
    refine bodyPost_ret (results_ct rfl _ _ (w.heap.size + 1) 31 _ (0, 0) _ rfl (Wd.heap_setRow hy4 _) Try.underlying31 rfl (by kernel_rfl)) rfl ?_
    exact ⟨rfl, g_end HG.out HD4.out HO4.out _⟩
  · obtain rfl : s = (3, 0, true) := HST.out.trans (if_neg hz)
    have hzb : ((er : Int) == 0) = false := bF hz
    clear hz
    go_wp2_with (first
      | (refine wpList_store_row rfl 31 _ _ rfl (w.heap.size + 1) _ rfl rfl 31 _ hy4 (by kernel_rfl) rfl (rep_one' _ _) ?_))
    refine bodyPost_ret (results_ct rfl _ _ (w.heap.size + 1) 31 _ (0, 0) _ rfl (Wd.heap_setRow hy4 _) Try.underlying31 rfl (by kernel_rfl)) rfl ?_
    exact ⟨rfl, g_end HG.out HD4.out HO4.out _⟩
set_option maxRecDepth 100000 in
set_option maxHeartbeats 4000000 in
theorem gate_10 (gd : Nat) (d : Dk) (cap ini : Int) (c : Cmd) (dv : Value) (w : World) (h : HasD w gd d) (hs : Wd.Secs w dv c) (hc : (Lit.int .i64 cap).wf = true) (hini : isIn ini) (hchk : c.chk cap = 0) (hk : c.kind = 10) (s : Int × Int × Bool) (hst : s = if d.fault ini = 0 then (1, 0, true) else (3, 0, true)) :
    Calls Try.prog 19 #[.pointer (some ⟨gd, 0, none⟩), .int .i64 cap, .int .i64 ini, c.val dv] w (GPost w gd s (d.clr ini)) := by
  have hB := Wd.two_below w (.cells (Cmd.arr c dv) 35) (.cells (rep 0 0) 31)
  have hX := Bx.start w c dv
  have CK := Lib.hid (Wd.check_any c dv cap _ (hs.below hB) hc)
  have HG := Lib.hid h.lt
  have hbr : ∀ W, Below w.heap.size w W → HasD W gd d ∧ Only [gd] w W := fun W hW => ⟨h.kept (Only.of_below hW []) (by simp), Only.of_below hW _⟩
  have HBR := Lib.hid hbr
  have HB := Lib.hid hB
  have HX := Lib.hid hX
  have hy0 := hX.rp
  obtain ⟨A, n0, cp, rfl⟩ : ∃ A n0 cp, dv = .slice A n0 cp := by
    obtain ⟨_, A, cp, h1, _⟩ := hs; exact ⟨A, _, cp, h1⟩
  clear hX hB h hbr hs
  obtain ⟨kind, lba, count, n, bs, key, res, keep⟩ := c
  have hc1 := hchk
  simp only at hk
  have i0 : ¬ ini < 0 := fun h => by have := hini.1; omega
  have i1 : ¬ 16 ≤ ini := fun h => by have := hini.2; omega
  have hxb : (((Cmd.mk kind lba count n bs key res keep).chk cap : Int) == 0) = true := bT hc1
  generalize (Cmd.mk kind lba count n bs key res keep).chk cap = X at *
  clear hc1 hchk hini hy0
  unfold Cmd.arr rep at *
  simp only at *
  unfold Cmd.val at *
  subst hk
  have HST := Lib.hid hst
  clear hst
  go_enter Try.func19, Try.ntmps19
  go_wp2_with (fail)
  refine (CK.out).mono ?_
  rintro e w3 ⟨rfl, hb3⟩
  have hX3 : Bx w w3 _ _ := HX.out.kept (Only.of_below hb3 []) (by simp)
  obtain ⟨ck0, ck4, ck5, ck6⟩ := hX3.cells
  have hy3 := hX3.rp
  obtain ⟨hD3, hO3⟩ := HBR.out _ (HB.out.trans (hb3.mono HB.out.size))
  have HX3 := Lib.hid hX3
  have HD3 := Lib.hid hD3
  have HO3 := Lib.hid hO3
  unfold rep at hy3
  clear hb3 hD3 hO3 CK hX3 HB HX HBR
  simp only at ck0 ck4 ck5 ck6
  have MY := Lib.hid (Clear_any gd d ini w3 HD3.out)
  generalize d.fault ini = er at *
  go_wp2_with (fail)
  refine (MY.out).mono ?_
  rintro e w4 ⟨rfl, hD4, hO4⟩
  have hX4 := HX3.out.kept hO4 (fun k hk => by simp at hk; subst hk; exact HG.out)
  have hy4 := hX4.rp
  have HD4 := Lib.hid hD4
  have HO4 := Lib.hid (HO3.out.trans1 hO4)
  unfold rep at hy4
  clear hD4 hO4 hX4 MY HX3 HD3 HO3 ck0 ck4 ck5 ck6 hy3
  by_cases hz : er = 0
  · subst hz
    obtain rfl : s = (1, 0, true) := HST.out.trans (if_pos rfl)
    go_wp2_with (first
      | (refine wpList_store_row rfl 31 _ _ rfl (w.heap.size + 1) _ rfl rfl 31 _ hy4 (by kernel_rfl) rfl (rep_one' _ _) ?_))
    refine bodyPost_ret (results_ct rfl _ _ (w.heap.size + 1) 31 _ (0, 0) _ rfl (Wd.heap_setRow hy4 _) Try.underlying31 rfl (by kernel_rfl)) rfl ?_
    exact ⟨rfl, g_end HG.out HD4.out HO4.out _⟩
  · obtain rfl : s = (3, 0, true) := HST.out.trans (if_neg hz)
    have hzb : ((er : Int) == 0) = false := bF hz
    clear hz
    go_wp2_with (first
      | (refine wpList_store_row rfl 31 _ _ rfl (w.heap.size + 1) _ rfl rfl 31 _ hy4 (by kernel_rfl) rfl (rep_one' _ _) ?_))
    refine bodyPost_ret (results_ct rfl _ _ (w.heap.size + 1) 31 _ (0, 0) _ rfl (Wd.heap_setRow hy4 _) Try.underlying31 rfl (by kernel_rfl)) rfl ?_
    exact ⟨rfl, g_end HG.out HD4.out HO4.out _⟩
set_option maxRecDepth 100000 in
set_option maxHeartbeats 4000000 in
theorem gate_11 (gd : Nat) (d : Dk) (cap ini : Int) (c : Cmd) (dv : Value) (w : World) (h : HasD w gd d) (hs : Wd.Secs w dv c) (hc : (Lit.int .i64 cap).wf = true) (hini : isIn ini) (hchk : c.chk cap = 0) (hk : c.kind = 11) (s : Int × Int × Bool) (hst : s = if d.preE ini c.key = 0 then (1, 0, true) else (3, 0, true)) :
    Calls Try.prog 19 #[.pointer (some ⟨gd, 0, none⟩), .int .i64 cap, .int .i64 ini, c.val dv] w (GPost w gd s (d.pre ini c.key)) := by
  have hB := Wd.two_below w (.cells (Cmd.arr c dv) 35) (.cells (rep 0 0) 31)
  have hX := Bx.start w c dv
  have CK := Lib.hid (Wd.check_any c dv cap _ (hs.below hB) hc)
  have HG := Lib.hid h.lt
  have hbr : ∀ W, Below w.heap.size w W → HasD W gd d ∧ Only [gd] w W := fun W hW => ⟨h.kept (Only.of_below hW []) (by simp), Only.of_below hW _⟩
  have HBR := Lib.hid hbr
  have HB := Lib.hid hB
  have HX := Lib.hid hX
  have hy0 := hX.rp
  obtain ⟨A, n0, cp, rfl⟩ : ∃ A n0 cp, dv = .slice A n0 cp := by
    obtain ⟨_, A, cp, h1, _⟩ := hs; exact ⟨A, _, cp, h1⟩
  clear hX hB h hbr hs
  obtain ⟨kind, lba, count, n, bs, key, res, keep⟩ := c
  have hc1 := hchk
  simp only at hk
  have i0 : ¬ ini < 0 := fun h => by have := hini.1; omega
  have i1 : ¬ 16 ≤ ini := fun h => by have := hini.2; omega
  have hxb : (((Cmd.mk kind lba count n bs key res keep).chk cap : Int) == 0) = true := bT hc1
  generalize (Cmd.mk kind lba count n bs key res keep).chk cap = X at *
  clear hc1 hchk hini hy0
  unfold Cmd.arr rep at *
  simp only at *
  unfold Cmd.val at *
  subst hk
  have HST := Lib.hid hst
  clear hst
  go_enter Try.func19, Try.ntmps19
  go_wp2_with (fail)
  refine (CK.out).mono ?_
  rintro e w3 ⟨rfl, hb3⟩
  have hX3 : Bx w w3 _ _ := HX.out.kept (Only.of_below hb3 []) (by simp)
  obtain ⟨ck0, ck4, ck5, ck6⟩ := hX3.cells
  have hy3 := hX3.rp
  obtain ⟨hD3, hO3⟩ := HBR.out _ (HB.out.trans (hb3.mono HB.out.size))
  have HX3 := Lib.hid hX3
  have HD3 := Lib.hid hD3
  have HO3 := Lib.hid hO3
  unfold rep at hy3
  clear hb3 hD3 hO3 CK hX3 HB HX HBR
  simp only at ck0 ck4 ck5 ck6
  have MY := Lib.hid (Preempt_any gd d ini key w3 HD3.out)
  generalize d.preE ini key = er at *
  go_wp2_with (fail)
  refine (MY.out).mono ?_
  rintro e w4 ⟨rfl, hD4, hO4⟩
  have hX4 := HX3.out.kept hO4 (fun k hk => by simp at hk; subst hk; exact HG.out)
  have hy4 := hX4.rp
  have HD4 := Lib.hid hD4
  have HO4 := Lib.hid (HO3.out.trans1 hO4)
  unfold rep at hy4
  clear hD4 hO4 hX4 MY HX3 HD3 HO3 ck0 ck4 ck5 ck6 hy3
  by_cases hz : er = 0
  · subst hz
    obtain rfl : s = (1, 0, true) := HST.out.trans (if_pos rfl)
    go_wp2_with (first
      | (refine wpList_store_row rfl 31 _ _ rfl (w.heap.size + 1) _ rfl rfl 31 _ hy4 (by kernel_rfl) rfl (rep_one' _ _) ?_))
    refine bodyPost_ret (results_ct rfl _ _ (w.heap.size + 1) 31 _ (0, 0) _ rfl (Wd.heap_setRow hy4 _) Try.underlying31 rfl (by kernel_rfl)) rfl ?_
    exact ⟨rfl, g_end HG.out HD4.out HO4.out _⟩
  · obtain rfl : s = (3, 0, true) := HST.out.trans (if_neg hz)
    have hzb : ((er : Int) == 0) = false := bF hz
    clear hz
    go_wp2_with (first
      | (refine wpList_store_row rfl 31 _ _ rfl (w.heap.size + 1) _ rfl rfl 31 _ hy4 (by kernel_rfl) rfl (rep_one' _ _) ?_))
    refine bodyPost_ret (results_ct rfl _ _ (w.heap.size + 1) 31 _ (0, 0) _ rfl (Wd.heap_setRow hy4 _) Try.underlying31 rfl (by kernel_rfl)) rfl ?_
    exact ⟨rfl, g_end HG.out HD4.out HO4.out _⟩
set_option maxRecDepth 100000 in
set_option maxHeartbeats 4000000 in
theorem gate_else (gd : Nat) (d : Dk) (cap ini : Int) (c : Cmd) (dv : Value) (w : World) (h : HasD w gd d) (hs : Wd.Secs w dv c) (hc : (Lit.int .i64 cap).wf = true) (hini : isIn ini) (hchk : c.chk cap = 0) (hk : ¬ c.kind = 2 ∧ ¬ c.kind = 3 ∧ ¬ c.kind = 5 ∧ ¬ c.kind = 6 ∧ ¬ c.kind = 7 ∧ ¬ c.kind = 8 ∧ ¬ c.kind = 9 ∧ ¬ c.kind = 10 ∧ ¬ c.kind = 11) :
    Calls Try.prog 19 #[.pointer (some ⟨gd, 0, none⟩), .int .i64 cap, .int .i64 ini, c.val dv] w (GPost w gd (0, 0, false) d) := by
  have hB := Wd.two_below w (.cells (Cmd.arr c dv) 35) (.cells (rep 0 0) 31)
  have hX := Bx.start w c dv
  have CK := Lib.hid (Wd.check_any c dv cap _ (hs.below hB) hc)
  have HG := Lib.hid h.lt
  have hbr : ∀ W, Below w.heap.size w W → HasD W gd d ∧ Only [gd] w W := fun W hW => ⟨h.kept (Only.of_below hW []) (by simp), Only.of_below hW _⟩
  have HBR := Lib.hid hbr
  have HB := Lib.hid hB
  have HX := Lib.hid hX
  have hy0 := hX.rp
  obtain ⟨A, n0, cp, rfl⟩ : ∃ A n0 cp, dv = .slice A n0 cp := by
    obtain ⟨_, A, cp, h1, _⟩ := hs; exact ⟨A, _, cp, h1⟩
  clear hX hB h hbr hs
  obtain ⟨kind, lba, count, n, bs, key, res, keep⟩ := c
  have hc1 := hchk
  simp only at hk
  have i0 : ¬ ini < 0 := fun h => by have := hini.1; omega
  have i1 : ¬ 16 ≤ ini := fun h => by have := hini.2; omega
  have hxb : (((Cmd.mk kind lba count n bs key res keep).chk cap : Int) == 0) = true := bT hc1
  generalize (Cmd.mk kind lba count n bs key res keep).chk cap = X at *
  clear hc1 hchk hini hy0
  unfold Cmd.arr rep at *
  simp only at *
  unfold Cmd.val at *
  obtain ⟨n2, n3, n5, n6, n7, n8, n9, n10, n11⟩ := hk
  have m2 := bF n2
  have m3 := bF n3
  have m5 := bF n5
  have m6 := bF n6
  have m7 := bF n7
  have m8 := bF n8
  have m9 := bF n9
  have m10 := bF n10
  have m11 := bF n11
  clear n2 n3 n5 n6 n7 n8 n9 n10 n11
  go_enter Try.func19, Try.ntmps19
  go_wp2_with (fail)
  refine (CK.out).mono ?_
  rintro e w3 ⟨rfl, hb3⟩
  have hX3 : Bx w w3 _ _ := HX.out.kept (Only.of_below hb3 []) (by simp)
  obtain ⟨ck0, ck4, ck5, ck6⟩ := hX3.cells
  have hy3 := hX3.rp
  obtain ⟨hD3, hO3⟩ := HBR.out _ (HB.out.trans (hb3.mono HB.out.size))
  have HX3 := Lib.hid hX3
  have HD3 := Lib.hid hD3
  have HO3 := Lib.hid hO3
  unfold rep at hy3
  clear hb3 hD3 hO3 CK hX3 HB HX HBR
  simp only at ck0 ck4 ck5 ck6
  go_wp2_with (first
    | (refine wpList_store_row rfl 31 _ _ rfl (w.heap.size + 1) _ rfl rfl 31 _ hy3 (by kernel_rfl) rfl (rep_one' _ _) ?_))
  refine bodyPost_ret (results_ct rfl _ _ (w.heap.size + 1) 31 _ (0, 0) _ rfl (Wd.heap_setRow hy3 _) Try.underlying31 rfl (by kernel_rfl)) rfl ?_
  exact ⟨rfl, g_end HG.out HD3.out HO3.out _⟩
theorem gate_any (gd : Nat) (d : Dk) (cap ini : Int) (c : Cmd) (dv : Value) (w : World) (h : HasD w gd d) (hs : Wd.Secs w dv c) (hc : (Lit.int .i64 cap).wf = true) :
    Calls Try.prog 19 #[.pointer (some ⟨gd, 0, none⟩), .int .i64 cap, .int .i64 ini, c.val dv] w (GPost w gd (gateS d cap ini c) (gateD d cap ini c)) := by
  by_cases hbad : ¬ isIn ini ∨ ¬ c.chk cap = 0
  · unfold gateS gateD
    rw [if_pos hbad, if_pos hbad]
    exact gate_bad gd d cap ini c dv w h hs hc hbad
  · have hini : isIn ini := Classical.byContradiction fun h => hbad (.inl h)
    have hchk : c.chk cap = 0 := Classical.byContradiction fun h => hbad (.inr h)
    unfold gateS gateD
    rw [if_neg hbad, if_neg hbad]
    by_cases k2 : c.kind = 2
    · have h1 := gate_2 gd d cap ini c dv w h hs hc hini hchk k2
      simp only [k2]
      exact h1
    by_cases k3 : c.kind = 3
    · have h1 := gate_3 gd d cap ini c dv w h hs hc hini hchk k3
      simp only [k3]
      exact h1
    by_cases k5 : c.kind = 5
    · have h1 := gate_5 gd d cap ini c dv w h hs hc hini hchk k5
      simp only [k5]
      exact h1
    by_cases k6 : c.kind = 6
    · have h1 := gate_6 gd d cap ini c dv w h hs hc hini hchk k6
      simp only [k6]
      exact h1
    by_cases k7 : c.kind = 7
    · have h1 := gate_7 gd d cap ini c dv w h hs hc hini hchk k7
      simp only [k7]
      exact h1 _ rfl
    by_cases k8 : c.kind = 8
    · have h1 := gate_8 gd d cap ini c dv w h hs hc hini hchk k8
      simp only [k8]
      exact h1 _ rfl
    by_cases k9 : c.kind = 9
    · have h1 := gate_9 gd d cap ini c dv w h hs hc hini hchk k9
      simp only [k9]
      exact h1 _ rfl
    by_cases k10 : c.kind = 10
    · have h1 := gate_10 gd d cap ini c dv w h hs hc hini hchk k10
      simp only [k10]
      exact h1 _ rfl
    by_cases k11 : c.kind = 11
    · have h1 := gate_11 gd d cap ini c dv w h hs hc hini hchk k11
      simp only [k11]
      exact h1 _ rfl
    have h1 := gate_else gd d cap ini c dv w h hs hc hini hchk ⟨k2, k3, k5, k6, k7, k8, k9, k10, k11⟩
    rw [if_neg k2, if_neg (by rintro (h | h | h) <;> contradiction), if_neg k7, if_neg k8, if_neg k9, if_neg k10, if_neg k11, if_neg k7, if_neg k8, if_neg k9, if_neg k10, if_neg k11]
    exact h1
end Go.Proofs.Ytjpdjhmajjbgmaa.Md
