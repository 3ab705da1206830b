/- model.Unit.Do, walked. -/
import Derived.Test.YtjpdjhmajjbgmaaUn
import Derived.Laws.CopyOwn
set_option linter.unusedVariables false
set_option linter.unusedSimpArgs false
namespace Go.Proofs.Ytjpdjhmajjbgmaa.Md
open Go Go.RowKit Res
open Wd (Cmd u8s balloc Rd)
/-! What Do answers, and what it leaves. -/
def doS (d : Dk) (n : Nat) (bs : List Int) (ini : Int) (c : Cmd) : Int × Int :=
  if (gateS d n ini c).2.2 = true then ((gateS d n ini c).1, (gateS d n ini c).2.1)
  else if c.kind = 5 ∧ ¬ sec bs c.lba.toNat = c.bs.take 16 then (2, 14) else (1, 0)
def doB (d : Dk) (n : Nat) (bs : List Int) (ini : Int) (c : Cmd) : List Int :=
  if (gateS d n ini c).2.2 = true then bs
  else if c.kind = 3 then splice bs (c.lba.toNat * 16) c.bs
  else if c.kind = 6 then splice bs (c.lba.toNat * 16) (List.replicate (c.count.toNat * 16) 0)
  else if c.kind = 5 ∧ sec bs c.lba.toNat = c.bs.take 16 then splice bs (c.lba.toNat * 16) (c.bs.drop 16)
  else bs
def doN (d : Dk) (n : Nat) (ini : Int) (c : Cmd) : Nat :=
  if (gateS d n ini c).2.2 = true then 0 else if c.kind = 2 then c.count.toNat else 0
def doX (d : Dk) (n : Nat) (bs : List Int) (ini : Int) (c : Cmd) : List Int :=
  if (gateS d n ini c).2.2 = true then [] else if c.kind = 2 then (bs.drop (c.lba.toNat * 16)).take (c.count.toNat * 16) else []
/-- The answer, and the unit behind it. -/
def DPost (w : World) (g gd gs : Nat) (n : Nat) (st : Int × Int) (m : Nat) (xs : List Int) (d' : Dk) (bs' : List Int) (e : Ending) (w' : World) : Prop :=
  ∃ dv', e = .returned (.agg #[.int .i64 st.1, .int .i64 st.2, dv']) ∧ w'.ownsRow w.heap.size 24 16 dv' m (u8s xs) ∧ HasU w' g gd gs d' n bs' ∧ Only [gd, gs] w w'
section
variable {d : Dk} {n : Nat} {bs : List Int} {ini : Int} {c : Cmd} {st se : Int}
theorem do_all (h : gateS d n ini c = (st, se, true)) : doS d n bs ini c = (st, se) ∧ doB d n bs ini c = bs ∧ doN d n ini c = 0 ∧ doX d n bs ini c = [] := by
  unfold doS doB doN doX; rw [h]; exact ⟨rfl, rfl, rfl, rfl⟩
theorem do_k2 (h : gateS d n ini c = (st, se, false)) (hk : c.kind = 2) : doS d n bs ini c = (1, 0) ∧ doB d n bs ini c = bs ∧ doN d n ini c = c.count.toNat ∧ doX d n bs ini c = (bs.drop (c.lba.toNat * 16)).take (c.count.toNat * 16) := by
  unfold doS doB doN doX; rw [h, hk]; simp
theorem do_k3 (h : gateS d n ini c = (st, se, false)) (hk : c.kind = 3) : doS d n bs ini c = (1, 0) ∧ doB d n bs ini c = splice bs (c.lba.toNat * 16) c.bs ∧ doN d n ini c = 0 ∧ doX d n bs ini c = [] := by
  unfold doS doB doN doX; rw [h, hk]; simp
theorem do_k6 (h : gateS d n ini c = (st, se, false)) (hk : c.kind = 6) : doS d n bs ini c = (1, 0) ∧ doB d n bs ini c = splice bs (c.lba.toNat * 16) (List.replicate (c.count.toNat * 16) 0) ∧ doN d n ini c = 0 ∧ doX d n bs ini c = [] := by
  unfold doS doB doN doX; rw [h, hk]; simp
theorem do_k5y (h : gateS d n ini c = (st, se, false)) (hk : c.kind = 5) (he : sec bs c.lba.toNat = c.bs.take 16) : doS d n bs ini c = (1, 0) ∧ doB d n bs ini c = splice bs (c.lba.toNat * 16) (c.bs.drop 16) ∧ doN d n ini c = 0 ∧ doX d n bs ini c = [] := by
  unfold doS doB doN doX; rw [h, hk, he]; simp
theorem do_k5n (h : gateS d n ini c = (st, se, false)) (hk : c.kind = 5) (he : ¬ sec bs c.lba.toNat = c.bs.take 16) : doS d n bs ini c = (2, 14) ∧ doB d n bs ini c = bs ∧ doN d n ini c = 0 ∧ doX d n bs ini c = [] := by
  unfold doS doB doN doX; rw [h, hk]; simp [he]
theorem do_else (h : gateS d n ini c = (st, se, false)) (h2 : ¬ c.kind = 2) (h3 : ¬ c.kind = 3) (h5 : ¬ c.kind = 5) (h6 : ¬ c.kind = 6) : doS d n bs ini c = (1, 0) ∧ doB d n bs ini c = bs ∧ doN d n ini c = 0 ∧ doX d n bs ini c = [] := by
  unfold doS doB doN doX; rw [h]; simp [h2, h3, h5, h6]
/-- What Gate lets by. -/
theorem gate_by (h : gateS d n ini c = (st, se, false)) : c.chk n = 0 := by
  apply Classical.byContradiction
  intro hn
  unfold gateS at h
  rw [if_pos (.inr hn)] at h
  cases h
theorem fits_by {k l cap : Int} {n : Nat} (hcap : cap = n) (h : Wd.runE k l cap = 0) : ∃ a b : Nat, l = a ∧ k = b ∧ 1 ≤ b ∧ b ≤ 8 ∧ a + b ≤ n := by
  unfold Wd.runE at h
  by_cases hh : Wd.inRun k l cap
  · unfold Wd.inRun at hh
    exact ⟨l.toNat, k.toNat, by omega, by omega, by omega, by omega, by omega⟩
  · rw [if_neg hh] at h; cases h
theorem chk_2 (h : c.chk n = 0) (hk : c.kind = 2 ∨ c.kind = 6) : ∃ a b : Nat, c.lba = a ∧ c.count = b ∧ 1 ≤ b ∧ b ≤ 8 ∧ a + b ≤ n := by
  unfold Cmd.chk at h
  rw [if_neg (by omega), if_neg (by omega), if_neg (by omega), if_pos hk] at h
  exact fits_by rfl h
theorem chk_3 (h : c.chk n = 0) (hk : c.kind = 3) : ∃ a : Nat, c.lba = a ∧ 1 ≤ c.n ∧ c.n ≤ 8 ∧ a + c.n ≤ n := by
  unfold Cmd.chk at h
  rw [if_neg (by omega), if_neg (by omega), if_neg (by omega), if_neg (by omega), if_pos hk] at h
  obtain ⟨a, b, h1, h2, h3, h4, h5⟩ := fits_by rfl h
  exact ⟨a, h1, by omega, by omega, by omega⟩
theorem chk_5 (h : c.chk n = 0) (hk : c.kind = 5) : c.n = 2 ∧ ∃ a : Nat, c.lba = a ∧ a + 1 ≤ n := by
  unfold Cmd.chk at h
  rw [if_neg (by omega), if_neg (by omega), if_neg (by omega), if_neg (by omega), if_neg (by omega), if_pos hk] at h
  split at h
  · next h2 =>
    obtain ⟨a, b, h1, h2', h3, h4, h5⟩ := fits_by rfl h
    exact ⟨by omega, a, h1, by omega⟩
  · cases h
end
/-! Laws. -/
theorem exec_load_row {P : Program} {o : Oper} {a : Act} {w : World} (ty : TypeId) (x : Operand) (ho : o.op = .load ty x)
    (g : Nat) (hx : a.eval x = .pointer (some ⟨g, 0, none⟩)) (t : TypeId) (cs : Array Value) (fr : Nat × Nat) (d : TypeDesc) (hg : w.heap[g]? = some (.cells cs t fr))
    (hu : P.underlying ty = some d) (hd : (match d with | .struct _ | .array _ _ => true | _ => false) = true) (hi : (P.info? ty).map (·.size) = some cs.size) :
    (execOp a.eval o).run P w = .ok (.value (.agg cs)) w := by
  unfold execOp
  simp only [ho, hx, Instr.loadAt, Instr.sureAddr, Sem.run_bind, Sem.run_pure, Result.andThen_ok, run_loadVar_row w g t ty cs fr d hg hu hd hi]
theorem exec_load_mid {P : Program} {o : Oper} {a : Act} {w : World} (ty : TypeId) (x : Operand) (ho : o.op = .load ty x)
    (b off : Nat) (hx : a.eval x = .pointer (some ⟨b, off, none⟩)) (cs : List Value) (d : TypeDesc) (hc : w.rangeAt b off cs)
    (hu : P.underlying ty = some d) (hd : d.isRow = true) (hi : (P.info? ty).map (·.size) = some cs.length) :
    (execOp a.eval o).run P w = .ok (.value (.agg cs.toArray)) w := by
  unfold execOp
  simp only [ho, hx, Instr.loadAt, Instr.sureAddr, Sem.run_bind, Sem.run_pure, Result.andThen_ok, run_loadVar_mid w b off ty cs d hc hu hd hi]
/-- copy, elements of many cells. -/
theorem run_copy_cells {P : Program} (w : World) (dT sT ty elem : TypeId) (sz : Nat) (g o dLen dCap : Nat) (a : Addr) (sLen sCap : Nat) (cur : List Value) (t : TypeId) (cs : List Value)
    (hu : P.underlying dT = some (.slice elem)) (hs : (P.info? elem).map (·.size) = some sz)
    (hg : w.heap[g]? = some (.cells cur.toArray t (0, 0))) (hn : cs.length = Nat.min sLen dLen * sz)
    (hsrc : ∀ j v, cs[j]? = some v → w.cell? (a.add j) = some v) (hfit : o + cs.length ≤ cur.length) (h1 : ∀ v ∈ cs, v.oneCell' = true) :
    (Builtin.copy_ #[dT, sT] ty #[.slice (some ⟨g, o, none⟩) dLen dCap, .slice (some a) sLen sCap]).run P w =
      .ok (goInt (Nat.min sLen dLen)) (w.setRow g (splice cur o cs).toArray) := by
  have hl := run_loadCells_list (P := P) w a cs hsrc
  have hst := run_storeCells_at P g o t cs 0 cur.toArray w hg (by simpa using hfit) h1
  cases hq : P.info? elem with
  | none => simp [hq] at hs
  | some i =>
    have hi : i.size = sz := by simpa [hq] using hs
    simp [Builtin.copy_, run_underlying hu, Builtin.lenOf, Builtin.firstCells, sizeOf, typeInfo, hq, hi, ← hn, hl, hst, splice]
theorem u8s_splice (bs xs : List Int) (o : Nat) : u8s (splice bs o xs) = splice (u8s bs) o (u8s xs) := by
  unfold u8s splice; simp [List.map_take, List.map_drop]
theorem wpStill_run {P : Program} {ops : Array Oper} {rest : List Oper} {o : Oper} {a : Act} {w : World} {Q : Act → Prop} (hgd : o.guard = none) {v : Value} (h1 : (execOp a.eval o).run P w = .ok (.value v) w)
    (h : wpStill P ops w Q rest (a.put o.dst v)) : wpStill P ops w Q (o :: rest) a := by
  refine wpStill_step (fun K hK => ?_)
  simp only [Region.wanted, hgd, if_true]
  unfold Oper.still
  rw [h1, Oper.stillUpon_value]
  exact hK _ h
theorem rep_one3 (st se : Int) (A : Option Addr) (n c : Nat) : (#[.int .i64 st, .int .i64 se, .slice A n c] : Array Value).all (·.oneCell') = true := by simp [Value.oneCell']
theorem HasU.rd {w : World} {g gd gs n : Nat} {d : Dk} {bs : List Int} (h : HasU w g gd gs d n bs) {l k : Nat} (hk : 1 ≤ k) (hl : l + k ≤ n) : Rd w (.slice (some ⟨gs, l * 16, none⟩) k (n - l)) k 16 (u8s ((bs.drop (l * 16)).take (k * 16))) := by
  have hb := h.len
  have hn := h.hi
  refine ⟨by unfold u8s; simp; omega, _, _, rfl, by omega, by unfold maxLen; omega, (fun e => by cases e), fun _ => ⟨gs, l * 16, rfl, lt_of_heap h.s, fun j u hu => ?_⟩⟩
  rw [cell_of_heap h.s, List.getElem?_toArray]
  unfold u8s at hu ⊢
  rw [List.getElem?_map] at hu ⊢
  rcases Nat.lt_or_ge j (k * 16) with hj | hj
  · rw [List.getElem?_take_of_lt hj, List.getElem?_drop] at hu
    exact hu
  · rw [List.getElem?_eq_none (by simp; omega)] at hu
    cases hu
theorem HasU.wr {w : World} {g gd gs n : Nat} {d : Dk} {bs : List Int} (h : HasU w g gd gs d n bs) {l : Nat} {xs : List Int} (hx : l * 16 + xs.length ≤ bs.length) : HasU (w.setRow gs (splice (u8s bs) (l * 16) (u8s xs)).toArray) g gd gs d n (splice bs (l * 16) xs) := by
  have ho := Only.setRow (w := w) (g := gs) (splice (u8s bs) (l * 16) (u8s xs)).toArray
  have hne := h.ne
  exact ⟨(ho.block g (lt_of_heap h.u) (by simp; omega)).trans h.u, h.d.kept ho (by simp; omega), by rw [u8s_splice]; exact Wd.heap_setRow h.s _, by rw [length_splice _ _ _ hx]; exact h.len, h.lo, h.hi⟩
theorem zero24 (w : World) : (zeroValue 24).run Try.prog w = .ok (.agg (Array.replicate 16 (.int .u8 0))) w := by kernel_rfl
theorem set_splice {w : World} {g o : Nat} {cur xs : List Value} {t : TypeId} (hg : w.heap[g]? = some (.cells cur.toArray t (0, 0))) (hx : o + xs.length ≤ cur.length) (h1 : ∀ v ∈ xs, v.oneCell' = true) : w.setCells g o xs = w.setRow g (splice cur o xs).toArray := by
  have a1 := run_storeCells_cells (P := Try.prog) g o xs 0 w (fun j hj => by rw [cell_of_heap hg, List.getElem?_toArray, List.getElem?_eq_getElem (by omega)]; rfl) (fun j hj => frozen_of_heap hg _) h1
  have a2 := run_storeCells_at (P := Try.prog) g o t xs 0 cur.toArray w hg (by simpa using hx) h1
  rw [a1] at a2
  injection a2 with _ a3
  simpa [splice] using a3
/-- clear, elements of many cells. -/
theorem run_clear_cells {P : Program} (w : World) (t e ty : TypeId) (z : Value) (sz : Nat) (z1 : Value) (ht : P.underlying t = some (.slice e)) (hv : ∀ w, (zeroValue e).run P w = .ok z w) (hz : z.cells = Array.replicate sz z1) (h1 : z1.oneCell' = true) (g o n c : Nat) (hn : 0 < n)
    (cur : List Value) (tt : TypeId) (hg : w.heap[g]? = some (.cells cur.toArray tt (0, 0))) (hfit : o + n * sz ≤ cur.length) :
    (Builtin.clear_ #[t] ty #[.slice (some ⟨g, o, none⟩) n c]).run P w = .ok (.tuple #[]) (w.setRow g (splice cur o (List.replicate (n * sz) z1)).toArray) := by
  have hzc : (Builtin.zeroCells z.cells n).toList = List.replicate (n * sz) z1 := by
    rw [hz]
    unfold Builtin.zeroCells
    apply List.ext_getElem
    · simp
    · intro i h2 h3
      have h4 : i < n * sz := by simpa using h3
      have h5 : 0 < sz := by
        rcases Nat.eq_zero_or_pos sz with h0 | h0
        · rw [h0, Nat.mul_zero] at h4; omega
        · exact h0
      have h6 : i % sz < sz := Nat.mod_lt _ h5
      simp [h6]
  have hst := run_storeCells_at P g o tt (List.replicate (n * sz) z1) 0 cur.toArray w hg (by simpa using hfit) (by intro v hv'; rw [List.eq_of_mem_replicate hv']; exact h1)
  obtain ⟨m, rfl⟩ : ∃ m, n = m + 1 := ⟨n - 1, by omega⟩
  simp [Builtin.clear_, run_underlying ht, hv, hzc, hst, splice]
theorem wp_builtin_run {P : Program} {o : Oper} {a : Act} {w : World} {K : Act → World → Prop} {Q : Exit → Act → World → Prop} (d s : Operand) (dT sT : TypeId)
    (ho : o.op = .call { callee := .builtin .copy, args := #[d, s], argTypes := #[dT, sT] }) (v : Value) (w' : World) (hrun : (Builtin.copy_ #[dT, sT] o.type #[a.eval d, a.eval s]).run P w = .ok v w') (h : K (a.put o.dst v) w') : o.wp P a w K Q := by
  unfold Oper.wp
  simp [execOp, ho, resolve, invoke, builtin, hrun, Result.andThen]
  exact h
theorem wp_clear_run {P : Program} {o : Oper} {a : Act} {w : World} {K : Act → World → Prop} {Q : Exit → Act → World → Prop} (d : Operand) (dT : TypeId)
    (ho : o.op = .call { callee := .builtin .clear, args := #[d], argTypes := #[dT] }) (v : Value) (w' : World) (hrun : (Builtin.clear_ #[dT] o.type #[a.eval d]).run P w = .ok v w') (h : K (a.put o.dst v) w') : o.wp P a w K Q := by
  unfold Oper.wp
  simp [execOp, ho, resolve, invoke, builtin, hrun, Result.andThen]
  exact h
theorem rd_ne {w : World} {gd : Nat} {d : Dk} (h : HasD w gd d) {b off : Nat} {x : Int} (hc : w.cell? ⟨b, off, none⟩ = some (.int .u8 x)) : b ≠ gd := by
  rintro rfl
  rw [cell_of_heap h.heap] at hc
  unfold Dk.cells Dk.vals at hc
  rw [List.getElem?_toArray] at hc
  have := List.mem_of_getElem? hc
  simp at this
theorem secs_kept {w W : World} {gd : Nat} {d : Dk} {c : Cmd} {dv : Value} (h : Wd.Secs w dv c) (hd : HasD w gd d) (ho : Only [gd] w W) : Wd.Secs W dv c := by
  obtain ⟨h1, A, cap, hv, hn, hc, hz, h2⟩ := h
  refine ⟨h1, A, cap, hv, hn, hc, hz, fun h0 => ?_⟩
  obtain ⟨b, off, hA, hl, hx⟩ := h2 h0
  have hne : b ≠ gd := by
    obtain ⟨x0, hx0⟩ : ∃ x0, (u8s c.bs)[0]? = some (.int .u8 x0) := by
      have hlen : 0 < c.bs.length := by unfold u8s at h1; rw [List.length_map] at h1; omega
      unfold u8s
      rw [List.getElem?_map, List.getElem?_eq_getElem hlen]
      exact ⟨_, rfl⟩
    exact rd_ne hd (hx 0 _ hx0)
  refine ⟨b, off, hA, Nat.lt_of_lt_of_le hl ho.size, fun j u hu => ?_⟩
  have := hx j u hu
  simp only [World.cell?, ho.block b hl (by simpa using hne)] at this ⊢
  exact this
/-- What a walk of Do holds in the middle. -/
structure Mid (w W : World) (g gd gs : Nat) (d : Dk) (n : Nat) (bs : List Int) (c : Cmd) (dv : Value) : Prop where
  u : HasU W g gd gs d n bs
  x : Bx w W c dv
  o : Only [gd] w W
  s : Wd.Secs w dv c
  lt : g < w.heap.size ∧ gd < w.heap.size ∧ gs < w.heap.size
  dd : ∃ d0, HasD w gd d0
theorem Bx.kept2 {w W W' : World} {c : Cmd} {dv : Value} (h : Bx w W c dv) {S : List Nat} (ho : Only S W W') (hS : ∀ k ∈ S, k ≠ w.heap.size ∧ k ≠ w.heap.size + 1) : Bx w W' c dv :=
  ⟨(ho.block _ (lt_of_heap h.cm) (fun hm => (hS _ hm).1 rfl)).trans h.cm, (ho.block _ (lt_of_heap h.rp) (fun hm => (hS _ hm).2 rfl)).trans h.rp⟩
section
variable {w W W' : World} {g gd gs n : Nat} {d d' : Dk} {bs : List Int} {c : Cmd} {dv : Value}
theorem Mid.start (h : HasU w g gd gs d n bs) (hs : Wd.Secs w dv c) : Mid w ((w.alloc (.cells (Cmd.arr c dv) 35)).alloc (.cells (rep 0 0) 31)) g gd gs d n bs c dv :=
  ⟨h.below (Wd.two_below _ _ _), Bx.start w c dv, Only.of_below (Wd.two_below _ _ _) _, hs, ⟨lt_of_heap h.u, h.d.lt, lt_of_heap h.s⟩, ⟨d, h.d⟩⟩
theorem Mid.gsz (h : Mid w W g gd gs d n bs c dv) : w.heap.size + 1 < W.heap.size := lt_of_heap h.x.rp
theorem Mid.r (h : Mid w W g gd gs d n bs c dv) : Wd.Secs W dv c := by
  obtain ⟨d0, h0⟩ := h.dd
  exact secs_kept h.s h0 h.o
theorem Only.widen (h : Only [gd] w W) : Only [gd, gs] w W := ⟨h.os, h.tape, h.output, h.size, fun k hk hn => h.block k hk (fun hm => hn (by simp at hm; simp [hm]))⟩
theorem Bx.c1 (h : Bx w W c dv) : W.cell? ⟨w.heap.size, 1, none⟩ = some (.int .i64 c.lba) := by rw [cell_of_heap h.cm]; rfl
theorem Bx.c2 (h : Bx w W c dv) : W.cell? ⟨w.heap.size, 2, none⟩ = some (.int .i64 c.count) := by rw [cell_of_heap h.cm]; rfl
theorem Bx.c3 (h : Bx w W c dv) : W.cell? ⟨w.heap.size, 3, none⟩ = some dv := by rw [cell_of_heap h.cm]; rfl
theorem d_end {bs' xs : List Int} {dv' : Value} {m : Nat} {st : Int × Int} (hu : HasU W g gd gs d' n bs') (ho : Only [gd, gs] w W) (hlt : g < w.heap.size ∧ gd < w.heap.size ∧ gs < w.heap.size) (hx : w.heap.size + 1 < W.heap.size) (hown : W.ownsRow (w.heap.size + 2) 24 16 dv' m (u8s xs)) (row : Array Value) :
    DPost w g gd gs n st m xs d' bs' (.returned (.agg #[.int .i64 st.1, .int .i64 st.2, dv'])) (W.setRow (w.heap.size + 1) row) := by
  have hr := Only.setRow (w := W) (g := w.heap.size + 1) row
  refine ⟨dv', rfl, Wd.own_lower (Wd.own_kept hown (Wd.Only.setRow row) (fun k hk hm => ?_)) (by omega), hu.kept hr (by simp; omega) (by simp; omega) (by simp; omega), ho.trans hr (fun x hx => by simp at hx; subst hx; right; omega)⟩
  have := (hown.lt k hk).1
  simp at hm
  omega
theorem Mid.gate (h : Mid w W g gd gs d n bs c dv) (hd : HasD W' gd d') (ho : Only [gd] W W') : Mid w W' g gd gs d' n bs c dv :=
  ⟨h.u.desk ho hd, h.x.kept2 ho (fun k hk => by simp at hk; subst hk; have := h.lt; omega), h.o.trans1 ho, h.s, h.lt, h.dd⟩
theorem Mid.far (h : Mid w W g gd gs d n bs c dv) {b : Nat} (ho : Only [b] W W') (hb : w.heap.size + 1 < b) : Mid w W' g gd gs d n bs c dv := by
  have hl := h.lt
  exact ⟨h.u.kept ho (by simp; omega) (by simp; omega) (by simp; omega), h.x.kept2 ho (fun k hk => by simp at hk; subst hk; omega), h.o.trans ho (fun x hx => by simp at hx; subst hx; right; omega), h.s, h.lt, h.dd⟩
theorem Mid.src {A : Option Addr} {n0 cp : Nat} (h : Mid w W g gd gs d n bs c (.slice A n0 cp)) (h1 : 1 ≤ c.n) : n0 = c.n ∧ ∃ b off, A = some ⟨b, off, none⟩ ∧ ∀ j u, (u8s c.bs)[j]? = some u → W.cell? ⟨b, off + j, none⟩ = some u := by
  obtain ⟨_, A', cap, hv, hn, hc, hz, h2⟩ := h.r
  injection hv with e1 e2 e3
  subst e1
  obtain ⟨b, off, hA, hl, hx⟩ := h2 (by omega)
  exact ⟨e2, b, off, hA, hx⟩
theorem Mid.blen {A : Option Addr} {n0 cp : Nat} (h : Mid w W g gd gs d n bs c (.slice A n0 cp)) : c.bs.length = c.n * 16 := by
  have := h.r.len
  unfold u8s at this
  rwa [List.length_map] at this
theorem Mid.copy {b off cp l : Nat} (h : Mid w W g gd gs d n bs c (.slice (some ⟨b, off, none⟩) c.n cp)) (hk : 1 ≤ c.n) (hl : l + c.n ≤ n) (hs : ∀ j u, (u8s c.bs)[j]? = some u → W.cell? ⟨b, off + j, none⟩ = some u) (ty : TypeId) :
    (Builtin.copy_ #[22, 22] ty #[.slice (some ⟨gs, l * 16, none⟩) (n - l) (n - l), .slice (some ⟨b, off, none⟩) c.n cp]).run Try.prog W.drew = .ok (goInt c.n) (W.drew.setRow gs (splice (u8s bs) (l * 16) (u8s c.bs)).toArray) := by
  have hm : Nat.min c.n (n - l) = c.n := Nat.min_eq_left (by omega)
  have hbl := h.blen
  have hb := h.u.len
  have hr := run_copy_cells (P := Try.prog) W.drew 22 22 ty 24 16 gs (l * 16) (n - l) (n - l) ⟨b, off, none⟩ c.n cp (u8s bs) 24 (u8s c.bs) Try.underlying22 info24 h.u.s (by rw [hm, u8s_len, hbl]) (fun j v hv => by rw [Wd.addr_add]; exact hs j v hv) (by rw [u8s_len, u8s_len, hbl, hb]; omega) (Wd.u8s_one _)
  rw [hm] at hr
  exact hr
/-- What lies behind a write of sectors. -/
structure Wrote (w W : World) (g gd gs : Nat) (d : Dk) (n : Nat) (bs : List Int) : Prop where
  u : HasU W g gd gs d n bs
  rp : W.heap[w.heap.size + 1]? = some (.cells (rep 0 0) 31 (0, 0))
  o : Only [gd, gs] w W
  lt : g < w.heap.size ∧ gd < w.heap.size ∧ gs < w.heap.size
theorem Mid.wrote (h : Mid w W g gd gs d n bs c dv) {l : Nat} {xs : List Int} (hx : l * 16 + xs.length ≤ bs.length) : Wrote w (W.drew.setRow gs (splice (u8s bs) (l * 16) (u8s xs)).toArray) g gd gs d n (splice bs (l * 16) xs) := by
  have hl := h.lt
  have ho := Only.setRow (w := W.drew) (g := gs) (splice (u8s bs) (l * 16) (u8s xs)).toArray
  exact ⟨(h.u.below (Below.refl _ _).drew).wr hx, (ho.block _ h.gsz (by simp; omega)).trans h.x.rp, (Only.widen h.o).drew_.trans ho (fun x hx => by simp at hx; subst hx; left; simp), hl⟩
theorem Wrote.gsz (h : Wrote w W g gd gs d n bs) : w.heap.size + 1 < W.heap.size := lt_of_heap h.rp
theorem Mid.clear {l k : Nat} (h : Mid w W g gd gs d n bs c dv) (hk : 1 ≤ k) (hl : l + k ≤ n) (ty : TypeId) :
    (Builtin.clear_ #[22] ty #[.slice (some ⟨gs, l * 16, none⟩) k (n - l)]).run Try.prog W.drew = .ok (.tuple #[]) (W.drew.setRow gs (splice (u8s bs) (l * 16) (u8s (List.replicate (k * 16) 0))).toArray) := by
  have hb := h.u.len
  have hr := run_clear_cells (P := Try.prog) W.drew 22 24 ty (.agg (Array.replicate 16 (.int .u8 0))) 16 (.int .u8 0) Try.underlying22 zero24 rfl rfl gs (l * 16) k (n - l) hk (u8s bs) 24 h.u.s (by rw [u8s_len, hb]; omega)
  have e : u8s (List.replicate (k * 16) 0) = List.replicate (k * 16) (.int .u8 0) := by unfold u8s; rw [List.map_replicate]
  rw [e]
  exact hr
theorem Mid.there (h : Mid w W g gd gs d n bs c dv) {V : World} (hV : V.heap = W.heap) {o k : Nat} (hk : o + k ≤ bs.length) : V.there gs o k := by
  intro j hj
  have hs : V.heap[gs]? = some (.cells (u8s bs).toArray 24 (0, 0)) := by rw [hV]; exact h.u.s
  rw [cell_of_heap hs, frozen_of_heap hs]
  exact ⟨by rw [List.getElem?_toArray, List.getElem?_eq_getElem (by rw [u8s_len]; omega)]; rfl, rfl⟩
theorem Mid.keep (h : Mid w W g gd gs d n bs c dv) (hb : Below W.heap.size W W') : Mid w W' g gd gs d n bs c dv :=
  ⟨h.u.below hb, h.x.kept (Only.of_below hb []) (by simp), h.o.trans (Only.of_below hb []) (by simp), h.s, h.lt, h.dd⟩
end
set_option maxRecDepth 100000 in
set_option maxHeartbeats 8000000 in
theorem do_any (g gd gs : Nat) (d : Dk) (n : Nat) (bs : List Int) (ini : Int) (c : Cmd) (dv : Value) (w : World) (h : HasU w g gd gs d n bs) (hs : Wd.Secs w dv c) :
    Calls Try.prog 10 #[.pointer (some ⟨g, 0, none⟩), .int .i64 ini, c.val dv] w (DPost w g gd gs n (doS d n bs ini c) (doN d n ini c) (doX d n bs ini c) (gateD d n ini c) (doB d n bs ini c)) := by
  have hnn := h.hi
  have hM := Mid.start h hs
  have hcw : (Lit.int .i64 (n : Int)).wf = true := by simp [Lit.wf, show IntKind.i64.min = -9223372036854775808 from by decide, show IntKind.i64.max = 9223372036854775807 from by decide]; omega
  have GA := Lib.hid (fun W hW hs => gate_any gd d n ini c dv W hW hs hcw)
  have HM := Lib.hid hM
  have H0 := Lib.hid h
  obtain ⟨A, n0, cp, rfl⟩ : ∃ A n0 cp, dv = .slice A n0 cp := by
    obtain ⟨_, A, cp, h1, _⟩ := hs; exact ⟨A, _, cp, h1⟩
  clear hM h hs hcw
  obtain ⟨st, se, al, hgs⟩ : ∃ st se al, gateS d n ini c = (st, se, al) := ⟨_, _, _, rfl⟩
  have HGS := Lib.hid hgs
  rw [hgs] at GA
  clear hgs
  generalize hd' : gateD d n ini c = d' at *
  clear hd'
  have hcv : c.val (.slice A n0 cp) = .agg #[.int .i64 c.kind, .int .i64 c.lba, .int .i64 c.count, .slice A n0 cp, .int .u64 c.key, .int .i64 c.res, .bool c.keep] := rfl
  rw [hcv]
  clear hcv
  go_enter Try.func10, Try.ntmps10
  go_upto_region 3 with (fail)
  change Code.wp _ _ _ _ ((w.alloc (.cells (Cmd.arr c (.slice A n0 cp)) 35)).alloc (.cells (rep 0 0) 31))
  generalize hW1 : (w.alloc (.cells (Cmd.arr c (.slice A n0 cp)) 35)).alloc (.cells (rep 0 0) 31) = w1 at *
  clear hW1
  go_cut [7, 8] (fun v7 v8 wx => ∃ b7, v7 = .pointer (some ⟨b7, 0, none⟩) ∧ v8 = .bool al ∧ w.heap.size + 1 < b7 ∧ wx.heap[b7]? = some (.cells (rep st se) 31 (0, 0)) ∧ Mid w wx g gd gs d' n bs c (.slice A n0 cp))
  case first =>
    as_aux_lemma =>
      refine wp_region_held_drew (S := (fun W => (W.heap[g]? = some (.cells #[.pointer (some ⟨gd, 0, none⟩), .slice (some ⟨gs, 0, none⟩) n n] 60 (0, 0))) ∧ Bx w W c (.slice A n0 cp))) (by kernel_rfl) ⟨HM.out.u.u, ⟨HM.out.x.cm, HM.out.x.rp⟩⟩ (fun hS => ?_)
      have HMD := Lib.hid (HM.out.keep (Below.refl _ _).drew)
      refine wpAnyH_take (i := 0) (v := ?_) rfl (by kernel_rfl) (by kernel_rfl) (by kernel_rfl) (fun _ _ _ h => h) (Or.inl ⟨by rfl, ?_⟩) hS ?_
      rotate_left
      · intro w' hSw; go_simp; try rfl
      try simp only [Act.put, List.getElem_toArray, List.getElem_cons_succ, List.getElem_cons_zero, List.setIfInBounds_toArray, List.set_cons_zero, List.set_cons_succ]
      refine wpAnyH_take (i := 1) (v := ?_) rfl (by kernel_rfl) (by kernel_rfl) (by kernel_rfl) (fun _ _ _ h => h) (Or.inl ⟨by rfl, ?_⟩) hS ?_
      rotate_left
      · intro w' hSw; go_simp; try rfl
      try simp only [Act.put, List.getElem_toArray, List.getElem_cons_succ, List.getElem_cons_zero, List.setIfInBounds_toArray, List.set_cons_zero, List.set_cons_succ]
      refine wpAnyH_take (i := 2) (v := ?_) rfl (by kernel_rfl) (by kernel_rfl) (by kernel_rfl) (fun _ _ _ h => h) (Or.inl ⟨by rfl, ?_⟩) hS ?_
      rotate_left
      · intro w' hSw; go_simp; try rfl
      try simp only [Act.put, List.getElem_toArray, List.getElem_cons_succ, List.getElem_cons_zero, List.setIfInBounds_toArray, List.set_cons_zero, List.set_cons_succ]
      refine wpAnyH_take (i := 3) (v := ?_) rfl (by kernel_rfl) (by kernel_rfl) (by kernel_rfl) (fun _ _ _ h => h) (Or.inl ⟨by rfl, ?_⟩) hS ?_
      rotate_left
      · intro w' hSw; have u0 := (cell_of_heap hSw.1 0).trans (show _ = some _ from rfl); have u1 := (cell_of_heap hSw.1 1).trans (show _ = some _ from rfl); go_simp; try rfl
      try simp only [Act.put, List.getElem_toArray, List.getElem_cons_succ, List.getElem_cons_zero, List.setIfInBounds_toArray, List.set_cons_zero, List.set_cons_succ]
      refine wpAnyH_take (i := 4) (v := ?_) rfl (by kernel_rfl) (by kernel_rfl) (by kernel_rfl) (fun _ _ _ h => h) (Or.inl ⟨by rfl, ?_⟩) hS ?_
      rotate_left
      · intro w' hSw; go_simp; try rfl
      try simp only [Act.put, List.getElem_toArray, List.getElem_cons_succ, List.getElem_cons_zero, List.setIfInBounds_toArray, List.set_cons_zero, List.set_cons_succ]
      refine wpAnyH_take (i := 5) (v := ?_) rfl (by kernel_rfl) (by kernel_rfl) (by kernel_rfl) (fun _ _ _ h => h) (Or.inl ⟨by rfl, ?_⟩) hS ?_
      rotate_left
      · intro w' hSw; go_simp; try rfl
      try simp only [Act.put, List.getElem_toArray, List.getElem_cons_succ, List.getElem_cons_zero, List.setIfInBounds_toArray, List.set_cons_zero, List.set_cons_succ]
      refine wpAnyH_take (i := 6) (v := ?_) rfl (by kernel_rfl) (by kernel_rfl) (by kernel_rfl) (fun _ _ _ h => h) (Or.inl ⟨by rfl, ?_⟩) hS ?_
      rotate_left
      · intro w' hSw; go_simp; try rfl
      try simp only [Act.put, List.getElem_toArray, List.getElem_cons_succ, List.getElem_cons_zero, List.setIfInBounds_toArray, List.set_cons_zero, List.set_cons_succ]
      refine wpAnyH_take (i := 7) (v := ?_) rfl (by kernel_rfl) (by kernel_rfl) (by kernel_rfl) (fun _ _ _ h => h) (Or.inl ⟨by rfl, ?_⟩) hS ?_
      rotate_left
      · intro w' hSw; have u0 := (cell_of_heap hSw.1 0).trans (show _ = some _ from rfl); have u1 := (cell_of_heap hSw.1 1).trans (show _ = some _ from rfl); go_simp; try rfl
      try simp only [Act.put, List.getElem_toArray, List.getElem_cons_succ, List.getElem_cons_zero, List.setIfInBounds_toArray, List.set_cons_zero, List.set_cons_succ]
      refine wpAnyH_take (i := 8) (v := ?_) rfl (by kernel_rfl) (by kernel_rfl) (by kernel_rfl) (fun _ _ _ h => h) (Or.inl ⟨by rfl, ?_⟩) hS ?_
      rotate_left
      · intro w' hSw; go_simp; try rfl
      try simp only [Act.put, List.getElem_toArray, List.getElem_cons_succ, List.getElem_cons_zero, List.setIfInBounds_toArray, List.set_cons_zero, List.set_cons_succ]
      refine wpAnyH_take (i := 9) (v := ?_) rfl (by kernel_rfl) (by kernel_rfl) (by kernel_rfl) (fun _ _ _ h => h) (Or.inl ⟨by rfl, ?_⟩) hS ?_
      rotate_left
      · intro w' hSw; go_simp; try rfl
      try simp only [Act.put, List.getElem_toArray, List.getElem_cons_succ, List.getElem_cons_zero, List.setIfInBounds_toArray, List.set_cons_zero, List.set_cons_succ]
      refine wpAnyH_take (i := 10) (v := .agg #[.int .i64 c.kind, .int .i64 c.lba, .int .i64 c.count, .slice A n0 cp, .int .u64 c.key, .int .i64 c.res, .bool c.keep]) rfl (by kernel_rfl) (by kernel_rfl) (by kernel_rfl) (fun _ _ _ h => h) (Or.inl ⟨by rfl, fun w' hSw => ?_⟩) hS ?_
      · exact exec_load_row 35 _ rfl w.heap.size rfl 35 _ (0, 0) _ hSw.2.cm Try.underlying35 rfl (by kernel_rfl)
      try simp only [Act.put, List.getElem_toArray, List.getElem_cons_succ, List.getElem_cons_zero, List.setIfInBounds_toArray, List.set_cons_zero, List.set_cons_succ]
      refine wpAnyH_ready (rs := [11, 15]) (by kernel_rfl) (by simp) ?_
      refine AllReadyH.cons rfl (fun K hK => ?_) ?_
      · go_simp
        refine (GA.out _ HMD.out.u.d HMD.out.r).mono ?_
        rintro e w3 ⟨rfl, hd3, ho3⟩
        have HM3 := Lib.hid (HMD.out.gate hd3 ho3)
        clear hd3 ho3
        go_wp2_with (fail)
        refine hK.out _ _ ⟨HM3.out.u.u, HM3.out.x⟩ (fun hS => ?_)
        clear hK K
        try simp only [Act.put, List.getElem_toArray, List.getElem_cons_succ, List.getElem_cons_zero, List.setIfInBounds_toArray, List.set_cons_zero, List.set_cons_succ]
        refine wpAnyH_take (i := 12) (v := ?_) rfl (by kernel_rfl) (by kernel_rfl) (by kernel_rfl) (fun _ _ _ h => h) (Or.inl ⟨by rfl, ?_⟩) hS ?_
        rotate_left
        · intro w' hSw; go_simp; try rfl
        try simp only [Act.put, List.getElem_toArray, List.getElem_cons_succ, List.getElem_cons_zero, List.setIfInBounds_toArray, List.set_cons_zero, List.set_cons_succ]
        refine wpAnyH_take (i := 13) (v := ?_) rfl (by kernel_rfl) (by kernel_rfl) (by kernel_rfl) (fun _ _ _ h => h) (Or.inl ⟨by rfl, ?_⟩) hS ?_
        rotate_left
        · intro w' hSw; go_simp; try rfl
        try simp only [Act.put, List.getElem_toArray, List.getElem_cons_succ, List.getElem_cons_zero, List.setIfInBounds_toArray, List.set_cons_zero, List.set_cons_succ]
        refine wpAnyH_take (i := 14) (v := ?_) rfl (by kernel_rfl) (by kernel_rfl) (by kernel_rfl) (fun _ _ _ h => h) (Or.inl ⟨by rfl, ?_⟩) hS ?_
        rotate_left
        · intro w' hSw; go_simp; try rfl
        try simp only [Act.put, List.getElem_toArray, List.getElem_cons_succ, List.getElem_cons_zero, List.setIfInBounds_toArray, List.set_cons_zero, List.set_cons_succ]
        refine wpAnyH_ready (rs := [15]) (by kernel_rfl) (by simp) ?_
        refine AllReadyH.cons rfl (fun K hK => ?_) AllReadyH.nil
        have HM4 : ∀ o, Mid w (w3.alloc o) g gd gs d' n bs c (.slice A n0 cp) := fun o => HM3.out.keep (balloc _ _)
        go_simp
        refine hK.out _ _ ⟨(HM4 _).u.u, (HM4 _).x⟩ (fun hS => ?_)
        clear hK K
        try simp only [Act.put, List.getElem_toArray, List.getElem_cons_succ, List.getElem_cons_zero, List.setIfInBounds_toArray, List.set_cons_zero, List.set_cons_succ]
        clear hS
        change wpAnyH _ _ _ _ _ _ _ _ (w3.alloc (.cells (rep 0 0) 31))
        have HX4 := Lib.hid (heap_alloc_new w3 (.cells (rep 0 0) 31))
        have HM5 := Lib.hid (HM4 (.cells (rep 0 0) 31))
        have HL := Lib.hid HM3.out.gsz
        clear HM4
        generalize hb7 : w3.heap.size = b7 at *
        generalize w3.alloc (.cells (rep 0 0) 31) = w4 at *
        refine wpAnyH_ready (rs := [16]) (by kernel_rfl) (by simp) ?_
        refine AllReadyH.cons rfl (fun K hK => ?_) AllReadyH.nil
        rw [if_pos (by rfl)]
        refine wp_store_row 31 _ _ rfl b7 (rep st se) rfl rfl 31 _ HX4.out (by kernel_rfl) rfl (rep_one _ _) ?_
        have HM6 := Lib.hid (HM5.out.far (Only.setRow (g := b7) (rep st se)) HL.out)
        have HX6 := Lib.hid (Wd.heap_setRow HX4.out (rep st se))
        refine hK.out _ _ ⟨HM6.out.u.u, HM6.out.x⟩ (fun hS => ?_)
        clear hK K
        try simp only [Act.put, List.getElem_toArray, List.getElem_cons_succ, List.getElem_cons_zero, List.setIfInBounds_toArray, List.set_cons_zero, List.set_cons_succ]
        refine wpAnyH_take (i := 17) (v := ?_) rfl (by kernel_rfl) (by kernel_rfl) (by kernel_rfl) (fun _ _ _ h => h) (Or.inl ⟨by rfl, ?_⟩) hS ?_
        rotate_left
        · intro w' hSw; go_simp; try rfl
        try simp only [Act.put, List.getElem_toArray, List.getElem_cons_succ, List.getElem_cons_zero, List.setIfInBounds_toArray, List.set_cons_zero, List.set_cons_succ]
        refine wpAnyH_done (by kernel_rfl) ?_ _
        go_wp2_with (fail)
        go_meet
        exact ⟨b7, rfl, rfl, HL.out, HX6.out, HM6.out⟩
      · refine AllReadyH.cons rfl (fun K hK => ?_) AllReadyH.nil
        have HM4 : ∀ o, Mid w (w1.alloc o).drew g gd gs d n bs c (.slice A n0 cp) := fun o => HM.out.keep (Wd.bdrew (balloc _ _))
        go_simp
        refine hK.out _ _ ⟨(HM4 _).u.u, (HM4 _).x⟩ (fun hS => ?_)
        clear hK K
        try simp only [Act.put, List.getElem_toArray, List.getElem_cons_succ, List.getElem_cons_zero, List.setIfInBounds_toArray, List.set_cons_zero, List.set_cons_succ]
        clear hS
        change wpAnyH _ _ _ _ _ _ _ _ (w1.alloc (.cells (rep 0 0) 31)).drew
        have HX4 : Hid ((w1.alloc (.cells (rep 0 0) 31)).drew.heap[w1.heap.size]? = _) := Lib.hid (heap_alloc_new w1 (.cells (rep 0 0) 31))
        have HM5 := Lib.hid (HM4 (.cells (rep 0 0) 31))
        have HL := Lib.hid HM.out.gsz
        have HNG : Hid (¬ w1.heap.size = gd) := Lib.hid (fun e => by have := HM.out.u.d.lt; omega)
        clear HM4
        generalize hb7 : w1.heap.size = b7 at *
        generalize (w1.alloc (.cells (rep 0 0) 31)).drew = w4 at *
        have hS : (fun W => (W.heap[g]? = some (.cells #[.pointer (some ⟨gd, 0, none⟩), .slice (some ⟨gs, 0, none⟩) n n] 60 (0, 0))) ∧ Bx w W c (.slice A n0 cp)) w4 := ⟨HM5.out.u.u, HM5.out.x⟩
        refine wpAnyH_ready (rs := [11]) (by kernel_rfl) (by simp) ?_
        refine AllReadyH.cons rfl (fun K hK => ?_) AllReadyH.nil
        go_simp
        refine (GA.out _ HM5.out.u.d HM5.out.r).mono ?_
        rintro e w3 ⟨rfl, hd3, ho3⟩
        have HM3 := Lib.hid (HM5.out.gate hd3 ho3)
        have HX3 := Lib.hid ((ho3.block b7 (lt_of_heap HX4.out) (by simpa using HNG.out)).trans HX4.out)
        clear hd3 ho3
        go_wp2_with (fail)
        refine hK.out _ _ ⟨HM3.out.u.u, HM3.out.x⟩ (fun hS => ?_)
        clear hK K
        try simp only [Act.put, List.getElem_toArray, List.getElem_cons_succ, List.getElem_cons_zero, List.setIfInBounds_toArray, List.set_cons_zero, List.set_cons_succ]
        refine wpAnyH_take (i := 12) (v := ?_) rfl (by kernel_rfl) (by kernel_rfl) (by kernel_rfl) (fun _ _ _ h => h) (Or.inl ⟨by rfl, ?_⟩) hS ?_
        rotate_left
        · intro w' hSw; go_simp; try rfl
        try simp only [Act.put, List.getElem_toArray, List.getElem_cons_succ, List.getElem_cons_zero, List.setIfInBounds_toArray, List.set_cons_zero, List.set_cons_succ]
        refine wpAnyH_take (i := 13) (v := ?_) rfl (by kernel_rfl) (by kernel_rfl) (by kernel_rfl) (fun _ _ _ h => h) (Or.inl ⟨by rfl, ?_⟩) hS ?_
        rotate_left
        · intro w' hSw; go_simp; try rfl
        try simp only [Act.put, List.getElem_toArray, List.getElem_cons_succ, List.getElem_cons_zero, List.setIfInBounds_toArray, List.set_cons_zero, List.set_cons_succ]
        refine wpAnyH_take (i := 14) (v := ?_) rfl (by kernel_rfl) (by kernel_rfl) (by kernel_rfl) (fun _ _ _ h => h) (Or.inl ⟨by rfl, ?_⟩) hS ?_
        rotate_left
        · intro w' hSw; go_simp; try rfl
        try simp only [Act.put, List.getElem_toArray, List.getElem_cons_succ, List.getElem_cons_zero, List.setIfInBounds_toArray, List.set_cons_zero, List.set_cons_succ]
        refine wpAnyH_ready (rs := [16]) (by kernel_rfl) (by simp) ?_
        refine AllReadyH.cons rfl (fun K hK => ?_) AllReadyH.nil
        rw [if_pos (by rfl)]
        refine wp_store_row 31 _ _ rfl b7 (rep st se) rfl rfl 31 _ HX3.out (by kernel_rfl) rfl (rep_one _ _) ?_
        have HM6 := Lib.hid (HM3.out.far (Only.setRow (g := b7) (rep st se)) HL.out)
        have HX6 := Lib.hid (Wd.heap_setRow HX3.out (rep st se))
        refine hK.out _ _ ⟨HM6.out.u.u, HM6.out.x⟩ (fun hS => ?_)
        clear hK K
        try simp only [Act.put, List.getElem_toArray, List.getElem_cons_succ, List.getElem_cons_zero, List.setIfInBounds_toArray, List.set_cons_zero, List.set_cons_succ]
        refine wpAnyH_take (i := 17) (v := ?_) rfl (by kernel_rfl) (by kernel_rfl) (by kernel_rfl) (fun _ _ _ h => h) (Or.inl ⟨by rfl, ?_⟩) hS ?_
        rotate_left
        · intro w' hSw; go_simp; try rfl
        try simp only [Act.put, List.getElem_toArray, List.getElem_cons_succ, List.getElem_cons_zero, List.setIfInBounds_toArray, List.set_cons_zero, List.set_cons_succ]
        refine wpAnyH_done (by kernel_rfl) ?_ _
        go_wp2_with (fail)
        go_meet
        exact ⟨b7, rfl, rfl, HL.out, HX6.out, HM6.out⟩
  case rest =>
    obtain ⟨b7, rfl, rfl, hb7, hx7, hmc⟩ := hcut
    have HX7 := Lib.hid hx7
    have HMc := Lib.hid hmc
    clear hx7 hmc HM
    cases al with
    | true =>
      as_aux_lemma =>
        have HA := Lib.hid (do_all (bs := bs) HGS.out)
        have hy := HMc.out.x.rp
        unfold rep at hy HX7
        go_wp2_with (first | (refine wpList_load_row rfl 31 _ rfl b7 rfl 31 _ (0, 0) _ HX7.out Try.underlying31 rfl (by kernel_rfl) ?_) | (refine wpList_store_row rfl 31 _ _ rfl (w.heap.size + 1) _ rfl rfl 31 _ hy (by kernel_rfl) rfl (rep_one' _ _) ?_))
        refine bodyPost_ret (results_cell_row rfl _ _ (w.heap.size + 1) 31 _ (0, 0) _ rfl (Wd.heap_setRow hy _) Try.underlying31 rfl (by kernel_rfl)) rfl ?_
        rw [HA.out.1, HA.out.2.1, HA.out.2.2.1, HA.out.2.2.2]
        exact d_end HMc.out.u (Only.widen HMc.out.o) HMc.out.lt HMc.out.gsz (World.ownsRow_nil _ _ _ _) _
    | false =>
      have hchk := gate_by HGS.out
      go_upto_region 7 with (first
        | (refine wpList_store_row rfl 31 _ _ rfl wc.heap.size _ rfl rfl 31 _ (heap_alloc_new wc _) (by kernel_rfl) rfl (rep_one' 1 0) ?_))
      have hm9 := (HMc.out.keep (balloc wc (.cells (rep 0 0) 31))).far (Only.setRow (g := wc.heap.size) (rep 1 0)) HMc.out.gsz
      have hx9 := Wd.heap_setRow (heap_alloc_new wc (.cells (rep 0 0) 31)) (rep 1 0)
      have HL9 := Lib.hid HMc.out.gsz
      change Code.wp _ _ _ _ ((wc.alloc (.cells (rep 0 0) 31)).setRow wc.heap.size (rep 1 0))
      clear HMc HX7 hb7
      generalize (wc.alloc (.cells (rep 0 0) 31)).setRow wc.heap.size (rep 1 0) = w9 at *
      generalize wc.heap.size = b9 at *
      have HM9 := Lib.hid hm9
      have HX9 := Lib.hid hx9
      have k0 := hm9.x.cells.1
      clear hm9 hx9
      by_cases e2 : c.kind = 2
      · as_aux_lemma =>
          have ha := do_k2 (bs := bs) HGS.out e2
          obtain ⟨l, k, hl, hk, hk1, hk8, hlk⟩ := chk_2 hchk (.inl e2)
          rw [hl, hk, Int.toNat_natCast, Int.toNat_natCast] at ha
          have HA := Lib.hid ha
          have m2 := bT e2
          have hwr : IntKind.i64.wrap ((l : Int) + (k : Int)) = (l : Int) + (k : Int) := Wd.wrap_i64 (by omega) (by omega)
          have k2 := HM9.out.x.c2.trans (by rw [hk])
          have u0 := HM9.out.u.scell
          have k1 := HM9.out.x.c1.trans (by rw [hl])
          have HRD := Lib.hid ((HM9.out.u.below (Below.refl _ _).drew).rd hk1 hlk)
          clear ha e2 hchk HGS GA
          go_upto_region 9 with (fail)
          refine wp_region_still_tail 12 (by kernel_rfl) (by kernel_rfl) ?_
          simp only [List.take_succ_cons, List.take_zero, List.drop_succ_cons, List.drop_zero]
          still_step
          still_step
          still_step
          still_step
          still_step
          still_step
          still_step
          still_step
          still_step
          still_step
          still_step
          refine wpStill_run rfl (v := .slice (some ⟨gs, l * 16, none⟩) k (n - l)) ?_ ?_
          · go_simp
            rw [if_pos (by omega), if_pos (by omega), if_neg (by omega), show ((l : Int) + (k : Int)).toNat - l = k from by omega]
          try simp only [Act.put, List.getElem_toArray, List.getElem_cons_succ, List.getElem_cons_zero, List.setIfInBounds_toArray, List.set_cons_zero, List.set_cons_succ]
          refine wpStill_nil ?_
          change wpList _ _ _ _ _ (World.drew _)
          clear k0 k1 k2 u0 hwr
          go_wp2_with (fail)
          refine (Wd.clone_any _ _ k _ HRD.out (Wd.u8s_one _) (by omega)).mono ?_
          rintro e w10 ⟨v', rfl, ho10, hb10⟩
          obtain ⟨A2, c2, hv2, hn2, hm2⟩ := Wd.own_form ho10
          subst hv2
          have HM10 := Lib.hid ((HM9.out.keep (Below.refl _ _).drew).keep hb10)
          have hlt9 : b9 < w9.drew.heap.size := lt_of_heap HX9.out
          have hx10 := (hb10.block b9 hlt9).trans HX9.out
          have d2 := (cell_of_heap hx10 2).trans (show _ = some (.slice none 0 0) from rfl)
          have f2 := frozen_of_heap hx10 2
          have HM11 := Lib.hid (HM10.out.far (Only.set (p := ⟨b9, 2, none⟩) (.slice A2 k c2)) HL9.out)
          have hx11 := heap_set hx10 2 (.slice A2 k c2)
          have HO11 := Lib.hid (Wd.own_kept (Wd.own_lower ho10 (show w.heap.size + 2 ≤ _ from by have := HL9.out; omega)) (Wd.Only.set (p := ⟨b9, 2, none⟩) (.slice A2 k c2)) (fun q hq hm => by have := (ho10.lt q hq).1; simp at hm; omega))
          have HX11 : Hid ((w10.setCell ⟨b9, 2, none⟩ (.slice A2 k c2)).heap[b9]? = some (.cells #[.int .i64 1, .int .i64 0, .slice A2 k c2] 31 (0, 0))) := hx11
          clear hb10 ho10 hx10 hx11 HX9 HM9 HRD HM10
          have hy := HM11.out.x.rp
          unfold rep at hy
          go_wp2_with (first | (refine wpList_load_row rfl 31 _ rfl b9 rfl 31 _ (0, 0) _ HX11.out Try.underlying31 rfl (by kernel_rfl) ?_) | (refine wpList_store_row rfl 31 _ _ rfl (w.heap.size + 1) _ rfl rfl 31 _ hy (by kernel_rfl) rfl (rep_one3 _ _ _ _ _) ?_))
          refine bodyPost_ret (results_cell_row rfl _ _ (w.heap.size + 1) 31 _ (0, 0) _ rfl (Wd.heap_setRow hy _) Try.underlying31 rfl (by kernel_rfl)) rfl ?_
          rw [HA.out.1, HA.out.2.1, HA.out.2.2.1, HA.out.2.2.2]
          exact d_end HM11.out.u (Only.widen HM11.out.o) HM11.out.lt HM11.out.gsz HO11.out _
      by_cases e3 : c.kind = 3
      · as_aux_lemma =>
          have ha := do_k3 (bs := bs) HGS.out e3
          obtain ⟨l, hl, hk1, hk8, hlk⟩ := chk_3 hchk e3
          rw [hl, Int.toNat_natCast] at ha
          have HA := Lib.hid ha
          have m2 := bF e2
          have m3 := bT e3
          obtain ⟨hn0, b, off, hA, hsrc⟩ := HM9.out.src hk1
          subst hA
          subst hn0
          have k3 := HM9.out.x.c3
          have u0 := HM9.out.u.scell
          have k1 := HM9.out.x.c1.trans (by rw [hl])
          have hcp := HM9.out.copy hk1 hlk hsrc
          have HW := Lib.hid (HM9.out.wrote (xs := c.bs) (l := l) (by rw [HM9.out.blen, HM9.out.u.len]; omega))
          have HX11 := Lib.hid ((Only.setRow (w := w9.drew) (g := gs) (splice (u8s bs) (l * 16) (u8s c.bs)).toArray |>.block b9 (lt_of_heap HX9.out) (by have := HM9.out.lt; have := HL9.out; simp; omega)).trans HX9.out)
          have HCP : Hid (∀ ty, (Builtin.copy_ #[22, 22] ty #[.slice (some ⟨gs, l * 16, none⟩) (n - l) (n - l), .slice (some ⟨b, off, none⟩) c.n cp]).run Try.prog w9.drew = .ok (goInt c.n) (w9.drew.setRow gs (splice (u8s bs) (l * 16) (u8s c.bs)).toArray)) := hcp
          have HYY := Lib.hid (And.intro hk1 hlk)
          clear ha e2 e3 hchk HGS GA hsrc hcp
          go_upto_region 11 with (fail)
          refine wp_region_still_tail 9 (by kernel_rfl) (by kernel_rfl) ?_
          simp only [List.take_succ_cons, List.take_zero, List.drop_succ_cons, List.drop_zero]
          still_step
          still_step
          still_step
          still_step
          still_step
          still_step
          refine wpStill_run rfl (v := .slice (some ⟨gs, l * 16, none⟩) (n - l) (n - l)) ?_ ?_
          · go_simp
            rw [if_pos (by omega), if_neg (by omega)]
          try simp only [Act.put, List.getElem_toArray, List.getElem_cons_succ, List.getElem_cons_zero, List.setIfInBounds_toArray, List.set_cons_zero, List.set_cons_succ]
          still_step
          still_step
          refine wpStill_nil ?_
          change wpList _ _ _ _ _ (World.drew _)
          refine wpList_plain rfl (fun K hK => ?_)
          refine wp_builtin_run (.tmp 57) (.tmp 59) 22 22 rfl _ _ (HCP.out _) (hK _ _ ?_)
          refine wpList_nil ?_
          clear k0 k1 k3 u0 HCP
          generalize World.setRow _ _ _ = w11 at *
          have hy := HW.out.rp
          unfold rep at hy
          have HX12 : Hid (w11.heap[b9]? = some (.cells #[.int .i64 1, .int .i64 0, .slice none 0 0] 31 (0, 0))) := HX11
          go_wp2_with (first | (refine wpList_load_row rfl 31 _ rfl b9 rfl 31 _ (0, 0) _ HX12.out Try.underlying31 rfl (by kernel_rfl) ?_) | (refine wpList_store_row rfl 31 _ _ rfl (w.heap.size + 1) _ rfl rfl 31 _ hy (by kernel_rfl) rfl (rep_one' _ _) ?_))
          refine bodyPost_ret (results_cell_row rfl _ _ (w.heap.size + 1) 31 _ (0, 0) _ rfl (Wd.heap_setRow hy _) Try.underlying31 rfl (by kernel_rfl)) rfl ?_
          rw [HA.out.1, HA.out.2.1, HA.out.2.2.1, HA.out.2.2.2]
          exact d_end HW.out.u HW.out.o HW.out.lt HW.out.gsz (World.ownsRow_nil _ _ _ _) _
      by_cases e6 : c.kind = 6
      · as_aux_lemma =>
          have ha := do_k6 (bs := bs) HGS.out e6
          obtain ⟨l, k, hl, hk, hk1, hk8, hlk⟩ := chk_2 hchk (.inr e6)
          rw [hl, hk, Int.toNat_natCast, Int.toNat_natCast] at ha
          have HA := Lib.hid ha
          have m2 := bF e2
          have m3 := bF e3
          have m6 := bT e6
          have hwr : IntKind.i64.wrap ((l : Int) + (k : Int)) = (l : Int) + (k : Int) := Wd.wrap_i64 (by omega) (by omega)
          have k3 := HM9.out.x.c2.trans (by rw [hk])
          have u0 := HM9.out.u.scell
          have k1 := HM9.out.x.c1.trans (by rw [hl])
          have hcl := HM9.out.clear hk1 hlk
          have HW := Lib.hid (HM9.out.wrote (xs := List.replicate (k * 16) 0) (l := l) (by rw [List.length_replicate, HM9.out.u.len]; omega))
          have HX11 := Lib.hid ((Only.setRow (w := w9.drew) (g := gs) (splice (u8s bs) (l * 16) (u8s (List.replicate (k * 16) 0))).toArray |>.block b9 (lt_of_heap HX9.out) (by have := HM9.out.lt; have := HL9.out; simp; omega)).trans HX9.out)
          have HCP : Hid (∀ ty, (Builtin.clear_ #[22] ty #[.slice (some ⟨gs, l * 16, none⟩) k (n - l)]).run Try.prog w9.drew = .ok (.tuple #[]) (w9.drew.setRow gs (splice (u8s bs) (l * 16) (u8s (List.replicate (k * 16) 0))).toArray)) := hcl
          clear ha e2 e3 e6 hchk HGS GA hcl
          go_upto_region 13 with (fail)
          refine wp_region_still_tail 12 (by kernel_rfl) (by kernel_rfl) ?_
          simp only [List.take_succ_cons, List.take_zero, List.drop_succ_cons, List.drop_zero]
          still_step
          still_step
          still_step
          still_step
          still_step
          still_step
          still_step
          still_step
          still_step
          still_step
          still_step
          refine wpStill_run rfl (v := .slice (some ⟨gs, l * 16, none⟩) k (n - l)) ?_ ?_
          · go_simp
            rw [if_pos (by omega), if_pos (by omega), if_neg (by omega), show ((l : Int) + (k : Int)).toNat - l = k from by omega]
          try simp only [Act.put, List.getElem_toArray, List.getElem_cons_succ, List.getElem_cons_zero, List.setIfInBounds_toArray, List.set_cons_zero, List.set_cons_succ]
          refine wpStill_nil ?_
          change wpList _ _ _ _ _ (World.drew _)
          refine wpList_plain rfl (fun K hK => ?_)
          refine wp_clear_run (.tmp 74) 22 rfl _ _ (HCP.out _) (hK _ _ ?_)
          refine wpList_nil ?_
          clear k0 k1 k3 u0 HCP
          generalize World.setRow _ _ _ = w11 at *
          have hy := HW.out.rp
          unfold rep at hy
          have HX12 : Hid (w11.heap[b9]? = some (.cells #[.int .i64 1, .int .i64 0, .slice none 0 0] 31 (0, 0))) := HX11
          go_wp2_with (first | (refine wpList_load_row rfl 31 _ rfl b9 rfl 31 _ (0, 0) _ HX12.out Try.underlying31 rfl (by kernel_rfl) ?_) | (refine wpList_store_row rfl 31 _ _ rfl (w.heap.size + 1) _ rfl rfl 31 _ hy (by kernel_rfl) rfl (rep_one' _ _) ?_))
          refine bodyPost_ret (results_cell_row rfl _ _ (w.heap.size + 1) 31 _ (0, 0) _ rfl (Wd.heap_setRow hy _) Try.underlying31 rfl (by kernel_rfl)) rfl ?_
          rw [HA.out.1, HA.out.2.1, HA.out.2.2.1, HA.out.2.2.2]
          exact d_end HW.out.u HW.out.o HW.out.lt HW.out.gsz (World.ownsRow_nil _ _ _ _) _
      by_cases e5 : c.kind = 5
      · as_aux_lemma =>
          have m2 := bF e2
          have m3 := bF e3
          have m6 := bF e6
          have m5 := bT e5
          obtain ⟨hn2, l, hl, hlk⟩ := chk_5 hchk e5
          obtain ⟨hn0, b, off, hA, hsrc⟩ := HM9.out.src (by omega)
          subst hA
          rw [hn2] at hn0
          subst hn0
          have hbl := HM9.out.blen
          have hr1 := HM9.out.u.range (i := l) (by omega)
          have hl1 := sec_len HM9.out.u.len (i := l) (by omega)
          have hl2 : (c.bs.take 16).length = 16 := by rw [List.length_take, hbl]; omega
          have hl3 : (c.bs.drop 16).length = 16 := by rw [List.length_drop, hbl]; omega
          have hr2 : w9.rangeAt b off (u8s (c.bs.take 16)) := fun j v hv => hsrc j v (by unfold u8s at hv ⊢; rw [List.getElem?_map] at hv ⊢; rw [← hv, List.getElem?_take_of_lt (by have := (List.getElem?_eq_some_iff.1 (show (List.map (Value.int .u8) (c.bs.take 16))[j]? = some v from by rw [List.getElem?_map]; exact hv)).1; rw [List.length_map, hl2] at this; exact this)])
          have hr3 : w9.rangeAt b (off + 16) (u8s (c.bs.drop 16)) := fun j v hv => by
            rw [Nat.add_assoc]
            refine hsrc (16 + j) v ?_
            unfold u8s at hv ⊢
            rw [List.getElem?_map, List.getElem?_drop] at hv
            rw [List.getElem?_map]
            exact hv
          have HE := Lib.hid (fun W => Wd.eq_sec hl1 hl2 W)
          have heg := Wd.eqGuard41
          have k3 := HM9.out.x.c3
          have u0 := HM9.out.u.scell
          have k1 := HM9.out.x.c1.trans (by rw [hl])
          have hlI : (l : Int) < (n : Int) := by omega
          have HI1 : Hid ((Try.prog.info? 24).map (·.size) = some (u8s (sec bs l)).length) := Lib.hid (by rw [u8s_len, hl1]; exact info24)
          have HI2 : Hid ((Try.prog.info? 24).map (·.size) = some (u8s (c.bs.take 16)).length) := Lib.hid (by rw [u8s_len, hl2]; exact info24)
          have HI3 : Hid ((Try.prog.info? 24).map (·.size) = some (u8s (c.bs.drop 16)).length) := Lib.hid (by rw [u8s_len, hl3]; exact info24)
          have HI4 : Hid ((Try.prog.info? 24).map (·.size) = some (u8s (c.bs.drop 16)).toArray.size) := Lib.hid (by simp only [List.size_toArray]; rw [u8s_len, hl3]; exact info24)
          have HR1 := Lib.hid hr1
          have HR2 := Lib.hid hr2
          have HR3 := Lib.hid hr3
          have HL3 := Lib.hid hl3
          have hss := do_k5y (bs := bs) HGS.out e5
          have hsn := do_k5n (bs := bs) HGS.out e5
          rw [hl, Int.toNat_natCast] at hss hsn
          have HSS := Lib.hid hss
          have HSN := Lib.hid hsn
          obtain ⟨bq, hbq⟩ : ∃ q, q = decide (sec bs l = c.bs.take 16) := ⟨_, rfl⟩
          rw [← hbq] at HE
          have HBQ := Lib.hid hbq
          clear hss hsn e2 e3 e6 e5 hchk HGS GA hsrc hr1 hr2 hr3 hl1 hl2 hl3 hbl hn2 hbq
          go_upto_region 15 with (fail)
          refine wp_region_still_lit (by kernel_rfl) (by kernel_rfl) ?_
          still_step
          still_step
          still_step
          still_step
          still_step
          still_step
          still_step
          refine wpStill_run rfl (exec_load_mid 24 _ rfl gs (l * 16) (by rfl) _ _ HR1.out Try.underlying24 rfl HI1.out) ?_
          try simp only [Act.put, List.getElem_toArray, List.getElem_cons_succ, List.getElem_cons_zero, List.setIfInBounds_toArray, List.set_cons_zero, List.set_cons_succ]
          still_step
          still_step
          still_step
          refine wpStill_run rfl (exec_load_mid 24 _ rfl b off (by rfl) _ _ HR2.out Try.underlying24 rfl HI2.out) ?_
          try simp only [Act.put, List.getElem_toArray, List.getElem_cons_succ, List.getElem_cons_zero, List.setIfInBounds_toArray, List.set_cons_zero, List.set_cons_succ]
          have q := HE.out w9.drew
          still_step
          clear q
          refine wpStill_nil ?_
          have HM15 := Lib.hid (HM9.out.keep (Below.refl _ _).drew)
          have HX15 : Hid (w9.drew.heap[b9]? = _) := HX9
          have HR15 : Hid (w9.drew.rangeAt b (off + 16) (u8s (c.bs.drop 16))) := HR3
          generalize hw15 : ({ heap := w9.heap, tape := w9.tape, drawn := w9.drawn + 1, os := w9.os, output := w9.output } : World) = w15
          have e15 : w9.drew = w15 := hw15
          rw [e15] at HM15 HX15 HR15
          clear hw15 e15
          clear HM9 HX9 HR1 HR2 HR3 k0 k1 k3 u0 heg HE
          have u0 := HM15.out.u.scell
          have k1 := HM15.out.x.c1.trans (by rw [hl])
          have k3 := HM15.out.x.c3
          cases bq with
          | false =>
            have HA := Lib.hid (HSN.out (fun e => by have := HBQ.out; rw [decide_eq_true e] at this; cases this))
            have hy := HM15.out.x.rp
            unfold rep at hy
            clear HSS HSN HBQ HR15
            go_wp2_with (first | (refine wpList_store_row rfl 31 _ _ rfl (w.heap.size + 1) _ rfl rfl 31 _ hy (by kernel_rfl) rfl (rep_one' _ _) ?_))
            refine bodyPost_ret (results_cell_row rfl _ _ (w.heap.size + 1) 31 _ (0, 0) _ rfl (Wd.heap_setRow hy _) Try.underlying31 rfl (by kernel_rfl)) rfl ?_
            rw [HA.out.1, HA.out.2.1, HA.out.2.2.1, HA.out.2.2.2]
            exact d_end HM15.out.u (Only.widen HM15.out.o) HM15.out.lt HM15.out.gsz (World.ownsRow_nil _ _ _ _) _
          | true =>
            have HA := Lib.hid (HSS.out (of_decide_eq_true HBQ.out.symm))
            have HW := Lib.hid (HM15.out.wrote (xs := c.bs.drop 16) (l := l) (by rw [HL3.out, HM15.out.u.len]; omega))
            have HX11 := Lib.hid ((Only.setRow (w := w15.drew) (g := gs) (splice (u8s bs) (l * 16) (u8s (c.bs.drop 16))).toArray |>.block b9 (lt_of_heap HX15.out) (by have := HM15.out.lt; have := HL9.out; simp; omega)).trans HX15.out)
            have HT : Hid (w15.drew.there gs (l * 16) (u8s (c.bs.drop 16)).toArray.size) := Lib.hid (HM15.out.there rfl (by simp only [List.size_toArray]; rw [u8s_len, HL3.out, HM15.out.u.len]; omega))
            have HSET : Hid (w15.drew.setCells gs (l * 16) (u8s (c.bs.drop 16)) = w15.drew.setRow gs (splice (u8s bs) (l * 16) (u8s (c.bs.drop 16))).toArray) := Lib.hid (set_splice (show w15.drew.heap[gs]? = _ from HM15.out.u.s) (by rw [u8s_len, u8s_len, HL3.out, HM15.out.u.len]; omega) (Wd.u8s_one _))
            clear HSS HSN HBQ
            go_upto_region 17 with (fail)
            refine wp_region_still_tail 10 (by kernel_rfl) (by kernel_rfl) ?_
            simp only [List.take_succ_cons, List.take_zero, List.drop_succ_cons, List.drop_zero]
            still_step
            still_step
            still_step
            still_step
            still_step
            still_step
            still_step
            still_step
            still_step
            refine wpStill_run rfl (exec_load_mid 24 _ rfl b (off + 16) (by rfl) _ _ HR15.out Try.underlying24 rfl HI3.out) ?_
            try simp only [Act.put, List.getElem_toArray, List.getElem_cons_succ, List.getElem_cons_zero, List.setIfInBounds_toArray, List.set_cons_zero, List.set_cons_succ]
            refine wpStill_nil ?_
            change wpList _ _ _ _ _ (World.drew _)
            go_upto_region 18 with (first | (refine wpList_store_mid rfl 24 _ _ rfl gs (l * 16) _ (by rfl) (by rfl) HT.out HI4.out (u8s_all _) ?_))
            rw [HSET.out]
            clear HSET HT k1 k3 u0
            generalize World.setRow _ _ _ = w11 at *
            have hy := HW.out.rp
            unfold rep at hy
            have HX12 : Hid (w11.heap[b9]? = some (.cells #[.int .i64 1, .int .i64 0, .slice none 0 0] 31 (0, 0))) := HX11
            go_wp2_with (first | (refine wpList_load_row rfl 31 _ rfl b9 rfl 31 _ (0, 0) _ HX12.out Try.underlying31 rfl (by kernel_rfl) ?_) | (refine wpList_store_row rfl 31 _ _ rfl (w.heap.size + 1) _ rfl rfl 31 _ hy (by kernel_rfl) rfl (rep_one' _ _) ?_))
            refine bodyPost_ret (results_cell_row rfl _ _ (w.heap.size + 1) 31 _ (0, 0) _ rfl (Wd.heap_setRow hy _) Try.underlying31 rfl (by kernel_rfl)) rfl ?_
            rw [HA.out.1, HA.out.2.1, HA.out.2.2.1, HA.out.2.2.2]
            exact d_end HW.out.u HW.out.o HW.out.lt HW.out.gsz (World.ownsRow_nil _ _ _ _) _
      as_aux_lemma =>
        have HA := Lib.hid (do_else (bs := bs) HGS.out e2 e3 e5 e6)
        have m2 := bF e2
        have m3 := bF e3
        have m6 := bF e6
        have m5 := bF e5
        have hy := HM9.out.x.rp
        unfold rep at hy
        have HX12 : Hid (w9.heap[b9]? = some (.cells #[.int .i64 1, .int .i64 0, .slice none 0 0] 31 (0, 0))) := HX9
        clear e2 e3 e5 e6 hchk HGS GA
        go_wp2_with (first | (refine wpList_load_row rfl 31 _ rfl b9 rfl 31 _ (0, 0) _ HX12.out Try.underlying31 rfl (by kernel_rfl) ?_) | (refine wpList_store_row rfl 31 _ _ rfl (w.heap.size + 1) _ rfl rfl 31 _ hy (by kernel_rfl) rfl (rep_one' _ _) ?_))
        refine bodyPost_ret (results_cell_row rfl _ _ (w.heap.size + 1) 31 _ (0, 0) _ rfl (Wd.heap_setRow hy _) Try.underlying31 rfl (by kernel_rfl)) rfl ?_
        rw [HA.out.1, HA.out.2.1, HA.out.2.2.1, HA.out.2.2.2]
        exact d_end HM9.out.u (Only.widen HM9.out.o) HM9.out.lt HM9.out.gsz (World.ownsRow_nil _ _ _ _) _
end Go.Proofs.Ytjpdjhmajjbgmaa.Md
