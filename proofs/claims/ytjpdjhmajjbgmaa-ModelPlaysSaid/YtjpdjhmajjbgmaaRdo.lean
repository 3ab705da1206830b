/- The document's Do, walked. -/
import Derived.Test.YtjpdjhmajjbgmaaRgt
import Derived.Test.YtjpdjhmajjbgmaaSma
import Derived.Deep.LoopGhost
set_option linter.unusedVariables false
set_option linter.unusedSimpArgs false
namespace Go.Proofs.Ytjpdjhmajjbgmaa.Md
open Go Go.RowKit Res
open Wd (Cmd u8s balloc Rd)
theorem results_cc {P : Program} {fn : Func} {p r : Tmp} {ty tz : TypeId} (h : fn.results = #[.cell p ty, .cell r tz]) (tmps : Array Value) (w : World) (g k : Nat) (t s : TypeId) (cs ds : Array Value) (fr fs : Nat × Nat) (d e : TypeDesc)
    (hp : tmps.getD p undef = .pointer (some ⟨g, 0, none⟩)) (hg : w.heap[g]? = some (.cells cs t fr)) (hu : P.underlying ty = some d) (hd : (match d with | .struct _ | .array _ _ => true | _ => false) = true) (hi : (P.info? ty).map (·.size) = some cs.size)
    (hr : tmps.getD r undef = .pointer (some ⟨k, 0, none⟩)) (hk : w.heap[k]? = some (.cells ds s fs)) (hv : P.underlying tz = some e) (he : (match e with | .struct _ | .array _ _ => true | _ => false) = true) (hj : (P.info? tz).map (·.size) = some ds.size) :
    (results fn tmps).run P w = .ok (.tuple #[.agg cs, .agg ds]) w := by
  have hp' : tmps[p]?.getD undef = .pointer (some ⟨g, 0, none⟩) := by simpa using hp
  have hr' : tmps[r]?.getD undef = .pointer (some ⟨k, 0, none⟩) := by simpa using hr
  simp [results, h, hp', hr', asAddr, run_loadVar_row w g t ty cs fr d hg hu hd hi, run_loadVar_row w k s tz ds fs e hk hv he hj]
/-- The document's unit, as cells. -/
def ucells (d : Dk) (v : Value) : Array Value := (d.vals ++ [v]).toArray
theorem ulen {d : Dk} (hl : d.keys.length = 16) : d.vals.length = 19 := by simp [Dk.vals, hl]
theorem usize {d : Dk} (hl : d.keys.length = 16) (v : Value) : (ucells d v).size = 20 := by simp [ucells, ulen hl]
theorem u48 : ∃ fs, Try.prog.underlying 48 = some (.struct fs) := ⟨_, rfl⟩
theorem info48 {d : Dk} (hl : d.keys.length = 16) (v : Value) : (Try.prog.info? 48).map (·.size) = some (ucells d v).size := by rw [usize hl]; kernel_rfl
theorem uone {d : Dk} {A : Option Addr} {n c : Nat} : (ucells d (.slice A n c)).all (·.oneCell') = true := by
  have h := one41 d
  rw [Array.all_eq_true_iff_forall_mem] at h ⊢
  intro v hv
  unfold ucells at hv
  rw [List.mem_toArray, List.mem_append] at hv
  rcases hv with hv | hv
  · exact h v (by unfold Dk.cells; rwa [List.mem_toArray])
  · simp at hv; subst hv; rfl
theorem usplice {d d' : Dk} (hl : d.keys.length = 16) (hl' : d'.keys.length = 16) (v : Value) : (splice (d.vals ++ [v]) 0 d'.vals).toArray = ucells d' v := by
  unfold splice ucells
  rw [List.take_zero, List.nil_append, Nat.zero_add, ulen hl', List.drop_append_of_le_length (by rw [ulen hl]; omega), List.drop_of_length_le (by rw [ulen hl]; omega), List.nil_append]
theorem useti {d : Dk} (hl : d.keys.length = 16) (v v' : Value) : (ucells d v).setIfInBounds 19 v' = ucells d v' := by
  unfold ucells
  rw [List.setIfInBounds_toArray, List.set_append_right _ _ (by rw [ulen hl]; omega), ulen hl]
  rfl
/-- The four boxes of a call. -/
structure Ux (w W : World) (d : Dk) (v : Value) (c : Cmd) (dv : Value) (rp ru : Array Value) : Prop where
  un : W.heap[w.heap.size]? = some (.cells (ucells d v) 48 (0, 0))
  cm : W.heap[w.heap.size + 1]? = some (.cells (Cmd.arr c dv) 35 (0, 0))
  rp : W.heap[w.heap.size + 2]? = some (.cells rp 31 (0, 0))
  ru : W.heap[w.heap.size + 3]? = some (.cells ru 48 (0, 0))
  bel : Below w.heap.size w W
section
variable {w W W' : World} {d d' : Dk} {v v' : Value} {c : Cmd} {dv : Value} {rp ru : Array Value}
theorem Ux.start (w : World) (d : Dk) (v : Value) (c : Cmd) (dv : Value) (ru : Array Value) : Ux w ((((w.alloc (.cells (ucells d v) 48)).alloc (.cells (Cmd.arr c dv) 35)).alloc (.cells (rep 0 0) 31)).alloc (.cells ru 48)) d v c dv (rep 0 0) ru := by
  have hb : Below w.heap.size w ((((w.alloc (.cells (ucells d v) 48)).alloc (.cells (Cmd.arr c dv) 35)).alloc (.cells (rep 0 0) 31)).alloc (.cells ru 48)) := (((((Below.refl _ _).alloc (Nat.le_refl _) _).alloc (by simp) _).alloc (by simp <;> omega) _).alloc (by simp <;> omega) _)
  have e1 : w.heap.size + 1 = (w.alloc (.cells (ucells d v) 48)).heap.size := by simp
  have e2 : w.heap.size + 2 = ((w.alloc (.cells (ucells d v) 48)).alloc (.cells (Cmd.arr c dv) 35)).heap.size := by simp
  have e3 : w.heap.size + 3 = (((w.alloc (.cells (ucells d v) 48)).alloc (.cells (Cmd.arr c dv) 35)).alloc (.cells (rep 0 0) 31)).heap.size := by simp
  refine ⟨?_, ?_, ?_, ?_, hb⟩
  · exact (Below.heap_alloc _ _ _ (by simp <;> omega)).trans ((Below.heap_alloc _ _ _ (by simp <;> omega)).trans ((Below.heap_alloc _ _ _ (by simp)).trans (heap_alloc_new w _)))
  · rw [e1]; exact (Below.heap_alloc _ _ _ (by simp <;> omega)).trans ((Below.heap_alloc _ _ _ (by simp)).trans (heap_alloc_new _ _))
  · rw [e2]; exact (Below.heap_alloc _ _ _ (by simp)).trans (heap_alloc_new _ _)
  · rw [e3]; exact heap_alloc_new _ _
theorem Ux.below (h : Ux w W d v c dv rp ru) (hb : Below W.heap.size W W') : Ux w W' d v c dv rp ru :=
  ⟨(hb.block _ (lt_of_heap h.un)).trans h.un, (hb.block _ (lt_of_heap h.cm)).trans h.cm, (hb.block _ (lt_of_heap h.rp)).trans h.rp, (hb.block _ (lt_of_heap h.ru)).trans h.ru, h.bel.trans (hb.mono h.bel.size)⟩
theorem Ux.sz (h : Ux w W d v c dv rp ru) : w.heap.size + 3 < W.heap.size := lt_of_heap h.ru
/-- Another block, newer than the four. -/
theorem Ux.far (h : Ux w W d v c dv rp ru) {b : Nat} (hb : w.heap.size + 3 < b) (ho : Only [b] W W') : Ux w W' d v c dv rp ru :=
  ⟨(ho.block _ (lt_of_heap h.un) (by simp; omega)).trans h.un, (ho.block _ (lt_of_heap h.cm) (by simp; omega)).trans h.cm, (ho.block _ (lt_of_heap h.rp) (by simp; omega)).trans h.rp, (ho.block _ (lt_of_heap h.ru) (by simp; omega)).trans h.ru, Only.below h.bel ho h.bel.size (by simp; omega)⟩
theorem Ux.setUn (h : Ux w W d v c dv rp ru) (d' : Dk) (v' : Value) : Ux w (W.setRow w.heap.size (ucells d' v')) d' v' c dv rp ru := by
  have ho := Only.setRow (w := W) (g := w.heap.size) (ucells d' v')
  exact ⟨Wd.heap_setRow h.un _, (ho.block _ (lt_of_heap h.cm) (by simp)).trans h.cm, (ho.block _ (lt_of_heap h.rp) (by simp)).trans h.rp, (ho.block _ (lt_of_heap h.ru) (by simp)).trans h.ru, Only.below h.bel ho h.bel.size (by simp)⟩
theorem Ux.setRp (h : Ux w W d v c dv rp ru) (row : Array Value) : Ux w (W.setRow (w.heap.size + 2) row) d v c dv row ru := by
  have ho := Only.setRow (w := W) (g := w.heap.size + 2) row
  exact ⟨(ho.block _ (lt_of_heap h.un) (by simp)).trans h.un, (ho.block _ (lt_of_heap h.cm) (by simp)).trans h.cm, Wd.heap_setRow h.rp _, (ho.block _ (lt_of_heap h.ru) (by simp)).trans h.ru, Only.below h.bel ho h.bel.size (by simp)⟩
theorem Ux.setRu (h : Ux w W d v c dv rp ru) (row : Array Value) : Ux w (W.setRow (w.heap.size + 3) row) d v c dv rp row := by
  have ho := Only.setRow (w := W) (g := w.heap.size + 3) row
  exact ⟨(ho.block _ (lt_of_heap h.un) (by simp)).trans h.un, (ho.block _ (lt_of_heap h.cm) (by simp)).trans h.cm, (ho.block _ (lt_of_heap h.rp) (by simp)).trans h.rp, Wd.heap_setRow h.ru _, Only.below h.bel ho h.bel.size (by simp)⟩
theorem Ux.c0 (h : Ux w W d v c dv rp ru) : W.cell? ⟨w.heap.size + 1, 0, none⟩ = some (.int .i64 c.kind) := by rw [cell_of_heap h.cm]; rfl
theorem Ux.c1 (h : Ux w W d v c dv rp ru) : W.cell? ⟨w.heap.size + 1, 1, none⟩ = some (.int .i64 c.lba) := by rw [cell_of_heap h.cm]; rfl
theorem Ux.c2 (h : Ux w W d v c dv rp ru) : W.cell? ⟨w.heap.size + 1, 2, none⟩ = some (.int .i64 c.count) := by rw [cell_of_heap h.cm]; rfl
theorem Ux.c3 (h : Ux w W d v c dv rp ru) : W.cell? ⟨w.heap.size + 1, 3, none⟩ = some dv := by rw [cell_of_heap h.cm]; rfl
theorem Ux.c19 (h : Ux w W d v c dv rp ru) (hl : d.keys.length = 16) : W.cell? ⟨w.heap.size, 19, none⟩ = some v := by
  rw [cell_of_heap h.un, ucells, List.getElem?_toArray, List.getElem?_append_right (by rw [ulen hl]; omega), ulen hl]; rfl
theorem Ux.f19 (h : Ux w W d v c dv rp ru) : W.frozen? ⟨w.heap.size, 19, none⟩ = false := frozen_of_heap h.un 19
theorem Ux.dk (h : Ux w W d v c dv rp ru) : W.rangeAt w.heap.size 0 d.vals := by
  intro j u hj
  rw [Nat.zero_add, cell_of_heap h.un, ucells, List.getElem?_toArray, List.getElem?_append_left (List.getElem?_eq_some_iff.1 hj).1]
  exact hj
theorem Ux.there (h : Ux w W d v c dv rp ru) (hl : d.keys.length = 16) {V : World} (hV : V.heap = W.heap) : V.there w.heap.size 0 19 := by
  intro j hj
  have hs : V.heap[w.heap.size]? = some (.cells (ucells d v) 48 (0, 0)) := by rw [hV]; exact h.un
  rw [cell_of_heap hs, frozen_of_heap hs]
  refine ⟨?_, rfl⟩
  rw [Array.getElem?_eq_getElem (by rw [usize hl]; omega)]; rfl
theorem Ux.two (h : Ux w W d v c dv rp ru) (r1 r2 z2 : Array Value) :
    Ux w ((((W.alloc (.cells (rep 0 0) 31)).alloc (.cells z2 46)).setRow W.heap.size r1).setRow (W.heap.size + 1) r2) d v c dv rp ru ∧
    ((((W.alloc (.cells (rep 0 0) 31)).alloc (.cells z2 46)).setRow W.heap.size r1).setRow (W.heap.size + 1) r2).heap[W.heap.size]? = some (.cells r1 31 (0, 0)) ∧
    ((((W.alloc (.cells (rep 0 0) 31)).alloc (.cells z2 46)).setRow W.heap.size r1).setRow (W.heap.size + 1) r2).heap[W.heap.size + 1]? = some (.cells r2 46 (0, 0)) := by
  have h1 := h.below (Wd.two_below W (.cells (rep 0 0) 31) (.cells z2 46))
  have o1 := Only.setRow (w := (W.alloc (.cells (rep 0 0) 31)).alloc (.cells z2 46)) (g := W.heap.size) r1
  have h2 := h1.far (b := W.heap.size) h.sz o1
  have o2 := Only.setRow (w := ((W.alloc (.cells (rep 0 0) 31)).alloc (.cells z2 46)).setRow W.heap.size r1) (g := W.heap.size + 1) r2
  have h3 := h2.far (b := W.heap.size + 1) (by have := h.sz; omega) o2
  have a1 := Wd.heap_setRow (Wd.two_first W (.cells (rep 0 0) 31) (.cells z2 46)) r1
  have a2 := (o1.block (W.heap.size + 1) (lt_of_heap (Wd.two_last W (.cells (rep 0 0) 31) (.cells z2 46))) (by simp)).trans (Wd.two_last W (.cells (rep 0 0) 31) (.cells z2 46))
  exact ⟨h3, (o2.block W.heap.size (lt_of_heap a1) (by simp)).trans a1, Wd.heap_setRow a2 r2⟩
theorem Ux.desk (h : Ux w W d v c dv rp ru) (hl : d.keys.length = 16) (hl' : d'.keys.length = 16) : W.setCells w.heap.size 0 d'.vals = W.setRow w.heap.size (ucells d' v) := by
  have h1 := set_splice (g := w.heap.size) (o := 0) (cur := d.vals ++ [v]) (xs := d'.vals) (t := 48) h.un (by rw [List.length_append, ulen hl, ulen hl']; simp) (fun x hx => by
    have := one41 d'
    rw [Array.all_eq_true_iff_forall_mem] at this
    exact this x (by unfold Dk.cells; rwa [List.mem_toArray]))
  rw [usplice hl hl'] at h1
  exact h1
end
theorem two_last' (W : World) (r1 : Array Value) {z1 z2 : Obj} : (((W.alloc z1).alloc z2).setRow W.heap.size r1).heap[W.heap.size + 1]? = some z2 :=
  ((Only.setRow (w := (W.alloc z1).alloc z2) (g := W.heap.size) r1).block (W.heap.size + 1) (lt_of_heap (Wd.two_last W z1 z2)) (by simp)).trans (Wd.two_last W z1 z2)
theorem splice_take {α : Type} (L xs : List α) (o m : Nat) (h : o + xs.length ≤ m) (hm : m ≤ L.length) : (splice L o xs).take m = splice (L.take m) o xs := by
  unfold splice
  rw [List.take_append, List.take_append, List.length_take, Nat.min_eq_left (by omega), List.take_take, List.take_take, Nat.min_eq_right (by omega), Nat.min_eq_left (by omega)]
  congr 1
  rw [List.take_of_length_le (by omega), List.drop_take]
  congr 2
  omega
/-- Sectors laid into a row of one's own. -/
theorem own_put {w : World} {base r cp n : Nat} {bs xs : List Int} {o : Nat} (h : w.ownsRow base 24 16 (.slice (some ⟨r, 0, none⟩) n cp) n (u8s bs)) (hx : o + xs.length ≤ bs.length) :
    w.there r o (u8s xs).toArray.size ∧ (w.setCells r o (u8s xs)).ownsRow base 24 16 (.slice (some ⟨r, 0, none⟩) n cp) n (u8s (splice bs o xs)) ∧ Only [r] w (w.setCells r o (u8s xs)) := by
  have hl := h.1
  rcases h.2 with ⟨hv, _⟩ | ⟨g, cap, cur, hv, hb, hh, h1, h2, h3, h4⟩
  · cases hv
  injection hv with e1 e2 e3
  injection e1 with e1
  injection e1 with e1
  subst e1
  subst e3
  have hcl : cur.toList.length = cp * 16 := by simpa using h3
  have hbl : bs.length = n * 16 := by rw [u8s_len] at hl; exact hl
  have hlen : o + (u8s xs).length ≤ cur.toList.length := by rw [u8s_len, hcl]; have := Nat.mul_le_mul_right 16 h1; omega
  have hs := set_splice (w := w) (g := r) (o := o) (cur := cur.toList) (xs := u8s xs) (t := 24) (by simpa using hh) hlen (Wd.u8s_one _)
  refine ⟨?_, ?_, ?_⟩
  · intro j hj
    rw [cell_of_heap hh, frozen_of_heap hh]
    have hj2 : j < (u8s xs).length := by simpa using hj
    have hlt : o + j < cur.size := by have : cur.toList.length = cur.size := by simp
                                      omega
    exact ⟨by rw [Array.getElem?_eq_getElem hlt]; rfl, rfl⟩
  · rw [hs]
    refine ⟨by rw [u8s_len, length_splice _ _ _ hx, hbl], .inr ⟨r, cp, (splice cur.toList o (u8s xs)).toArray, rfl, hb, Wd.heap_setRow hh _, h1, h2, ?_, ?_⟩⟩
    · rw [List.size_toArray, length_splice _ _ _ hlen, hcl]
    · rw [u8s_splice]
      show (splice cur.toList o (u8s xs)).take (n * 16) = _
      rw [splice_take _ _ _ _ (by rw [u8s_len]; omega) (by rw [hcl]; exact Nat.mul_le_mul_right 16 h1), h4]
  · rw [hs]
    exact Only.setRow _
theorem wp_append_run {P : Program} {o : Oper} {a : Act} {w : World} {K : Act → World → Prop} {Q : Exit → Act → World → Prop} (d s : Operand) (dT sT : TypeId)
    (ho : o.op = .call { callee := .builtin .append, args := #[d, s], argTypes := #[dT, sT] }) (v : Value) (w' : World) (hrun : (Builtin.append_ #[dT, sT] o.type #[a.eval d, a.eval s]).run P w = .ok v w') (h : K (a.put o.dst v) w') : o.wp P a w K Q := by
  unfold Oper.wp
  simp [execOp, ho, resolve, invoke, builtin, hrun, Result.andThen]
  exact h
theorem own_far {w : World} {base r cp n g : Nat} {xs : List Value} (h : w.ownsRow base 24 16 (.slice (some ⟨r, 0, none⟩) n cp) n xs) (hne : r ≠ g) (cs : Array Value) : (w.setRow g cs).ownsRow base 24 16 (.slice (some ⟨r, 0, none⟩) n cp) n xs :=
  Wd.own_kept h (Wd.Only.setRow cs) (fun k hk hm => by simp [Value.ownBlock] at hk; simp at hm; omega)
theorem Ux.setSl {w W : World} {d : Dk} {v : Value} {c : Cmd} {dv : Value} {rp ru : Array Value} (h : Ux w W d v c dv rp ru) (hl : d.keys.length = 16) (v' : Value) : Ux w (W.setCell ⟨w.heap.size, 19, none⟩ v') d v' c dv rp ru := by
  have ho := Only.set (w := W) (p := ⟨w.heap.size, 19, none⟩) v'
  have hu := heap_set h.un 19 v'
  rw [useti hl] at hu
  exact ⟨hu, (ho.block _ (lt_of_heap h.cm) (by simp)).trans h.cm, (ho.block _ (lt_of_heap h.rp) (by simp)).trans h.rp, (ho.block _ (lt_of_heap h.ru) (by simp)).trans h.ru, Only.below h.bel ho h.bel.size (by simp)⟩
theorem secs_src {W : World} {A : Option Addr} {n0 cp : Nat} {c : Cmd} (h : Wd.Secs W (.slice A n0 cp) c) (h1 : 1 ≤ c.n) : n0 = c.n ∧ ∃ b off, A = some ⟨b, off, none⟩ ∧ b < W.heap.size ∧ ∀ j u, (u8s c.bs)[j]? = some u → W.cell? ⟨b, off + j, none⟩ = some u := by
  obtain ⟨_, A', cap, hv, hn, hc, hz, h2⟩ := h
  injection hv with e1 e2 e3
  subst e1
  obtain ⟨b, off, hA, hl, hx⟩ := h2 (by omega)
  exact ⟨e2, b, off, hA, hl, hx⟩
theorem own_rd {w : World} {base r cp n l k : Nat} {bs : List Int} (h : w.ownsRow base 24 16 (.slice (some ⟨r, 0, none⟩) n cp) n (u8s bs)) (hk : 1 ≤ k) (hl : l + k ≤ n) : Rd w (.slice (some ⟨r, l * 16, none⟩) k (cp - l)) k 16 (u8s ((bs.drop (l * 16)).take (k * 16))) := by
  have hb : bs.length = n * 16 := by have := h.1; rwa [u8s_len] at this
  obtain ⟨_, A, cap, hv, hn, hc, _, _⟩ := Rd.of_own h
  injection hv with _ _ e3
  subst e3
  have hk16 : l * 16 + k * 16 ≤ n * 16 := by omega
  refine ⟨by unfold u8s; simp; omega, _, _, rfl, by omega, by omega, (fun e => by cases e), fun _ => ⟨r, l * 16, rfl, (h.lt r rfl).2, fun j u hu => ?_⟩⟩
  rcases Nat.lt_or_ge j (k * 16) with hj | hj
  · rw [Wd.own_cell h (by omega)]
    unfold u8s at hu ⊢
    rw [List.getElem?_map] at hu ⊢
    rw [List.getElem?_take_of_lt hj, List.getElem?_drop] at hu
    exact hu
  · unfold u8s at hu
    rw [List.getElem?_eq_none (by simp; omega)] at hu
    cases hu
theorem own_sec {w : World} {base r cp n l : Nat} {bs : List Int} (h : w.ownsRow base 24 16 (.slice (some ⟨r, 0, none⟩) n cp) n (u8s bs)) (hl : l < n) : w.rangeAt r (l * 16) (u8s (sec bs l)) := by
  intro j v hv
  have hb : bs.length = n * 16 := by have := h.1; rwa [u8s_len] at this
  have hj : j < 16 := by have := (List.getElem?_eq_some_iff.1 hv).1; rw [u8s_len] at this; have := sec_le bs l; omega
  rw [Wd.own_cell h (by omega)]
  unfold u8s sec at *
  rw [List.getElem?_map, List.getElem?_take_of_lt hj, List.getElem?_drop] at hv
  rw [List.getElem?_map]
  exact hv
theorem splice_next {α : Type} (bs xs ys : List α) (o : Nat) (h : o + xs.length + ys.length ≤ bs.length) : splice (splice bs o xs) (o + xs.length) ys = splice bs o (xs ++ ys) := by
  unfold splice
  have e1 : (bs.take o ++ (xs ++ bs.drop (o + xs.length))).take (o + xs.length) = bs.take o ++ xs := by
    rw [← List.append_assoc, List.take_append_of_le_length (by simp; omega), List.take_of_length_le (by simp; omega)]
  have e2 : (bs.take o ++ (xs ++ bs.drop (o + xs.length))).drop (o + xs.length + ys.length) = bs.drop (o + (xs ++ ys).length) := by
    rw [← List.append_assoc, List.drop_append, List.drop_of_length_le (by simp; omega), List.nil_append, List.drop_drop]
    congr 1
    simp
    omega
  rw [e1, e2]
  simp
theorem splice_nil {α : Type} (bs : List α) (o : Nat) : splice bs o [] = bs := by unfold splice; simp
theorem take_sec (xs : List Int) (i : Nat) : xs.take (i * 16) ++ sec xs i = xs.take ((i + 1) * 16) := by
  unfold sec
  rw [Nat.succ_mul, List.take_add]
theorem rep_sec (i : Nat) : List.replicate (i * 16) (0 : Int) ++ zsec = List.replicate ((i + 1) * 16) 0 := by
  unfold zsec
  rw [Nat.succ_mul, List.replicate_append_replicate]
theorem secs_len {W : World} {dv : Value} {c : Cmd} (h : Wd.Secs W dv c) : c.bs.length = c.n * 16 := by
  have := h.len; unfold u8s at this; rwa [List.length_map] at this
/-- What the document's Do answers, and the unit behind. -/
def RPost (w : World) (n : Nat) (v : Value) (bs : List Int) (st : Int × Int) (m : Nat) (xs : List Int) (d' : Dk) (bs' : List Int) (e : Ending) (w' : World) : Prop :=
  ∃ A k cp A' cp', e = .returned (.tuple #[.agg #[.int .i64 st.1, .int .i64 st.2, .slice A k cp], .agg (ucells d' (.slice A' n cp'))]) ∧ Rd w' (.slice A k cp) m 16 (u8s xs) ∧ ((.slice A' n cp' = v ∧ bs' = bs) ∨ w'.ownsRow w.heap.size 24 16 (.slice A' n cp') n (u8s bs')) ∧ Below w.heap.size w w'
theorem rg_rel (d : Dk) (cap ini : Int) (c : Cmd) : ((rgS d cap ini c).2.2 = true → rgS d cap ini c = gateS d cap ini c) ∧ ((rgS d cap ini c).2.2 = false → (gateS d cap ini c).2.2 = false) := by
  unfold rgS
  by_cases hbad : ¬ isIn ini ∨ ¬ c.chk cap = 0
  · rw [if_pos hbad]
    refine ⟨fun _ => by unfold gateS; rw [if_pos hbad], fun h => by cases h⟩
  · rw [if_neg hbad]
    by_cases k2 : c.kind = 2
    · rw [if_pos k2]
      unfold gateS
      rw [if_neg hbad, if_pos k2]
      cases d.may ini false <;> simp
    · rw [if_neg k2]
      by_cases kw : c.kind = 3 ∨ c.kind = 5 ∨ c.kind = 6
      · rw [if_pos kw]
        have hg : gateS d cap ini c = (3, 0, !d.may ini true) := by unfold gateS; rw [if_neg hbad, if_neg k2, if_pos kw]
        rw [hg]
        cases d.may ini true <;> simp
      · rw [if_neg kw]
        exact ⟨fun _ => rfl, fun h => h⟩
set_option maxRecDepth 100000 in
set_option maxHeartbeats 16000000 in
theorem rdo_any (d : Dk) (n : Nat) (bs : List Int) (ini : Int) (c : Cmd) (dv v : Value) (w : World) (hf : d.fine) (hs : Wd.Secs w dv c) (hv : Rd w v n 16 (u8s bs)) (hn1 : 1 ≤ n) (hn : n ≤ 65536) :
    Calls Try.prog 17 #[.agg (ucells d v), .int .i64 ini, c.val dv] w (RPost w n v bs (doS d n bs ini c) (doN d n ini c) (doX d n bs ini c) (gateD d n ini c) (doB d n bs ini c)) := by
  obtain ⟨fs46, hu46⟩ := u41
  obtain ⟨fs48, hu48⟩ := u48
  have HU46 := Lib.hid hu46
  have HU48 := Lib.hid hu48
  have hbl : bs.length = n * 16 := by have := hv.len; rwa [u8s_len] at this
  obtain ⟨A1, c1, rfl, hc1, -⟩ : ∃ A cp, v = .slice A n cp ∧ n ≤ cp ∧ True := by
    obtain ⟨_, A, cp, h1, h2, _⟩ := hv; exact ⟨A, cp, h1, h2, trivial⟩
  have hcw : (Lit.int .i64 (n : Int)).wf = true := by simp [Lit.wf, show IntKind.i64.min = -9223372036854775808 from by decide, show IntKind.i64.max = 9223372036854775807 from by decide]; omega
  obtain ⟨A, n0, cp, rfl⟩ : ∃ A n0 cp, dv = .slice A n0 cp := by
    obtain ⟨_, A, cp, h1, _⟩ := hs; exact ⟨A, _, cp, h1⟩
  have GA := Lib.hid (fun W hW => rgate_any d n ini c (.slice A n0 cp) W hf (hs.below hW) hcw)
  have hX := Ux.start w d (.slice A1 n c1) c (.slice A n0 cp) (ucells Dk.new (.slice none 0 0))
  have HX := Lib.hid hX
  have HF := Lib.hid hf
  have HF2 : Hid (Dk.fine (gateD d n ini c)) := Lib.hid (by
    unfold gateD
    split; exact hf
    split; exact fine_reg hf _ _ _
    split; exact fine_res hf _ _
    split; exact fine_rel hf _
    split; exact fine_clr hf _
    split; exact fine_pre hf _ _
    exact hf)
  have HS := Lib.hid hs
  have HV := Lib.hid hv
  have HBL := Lib.hid hbl
  have HRG := Lib.hid (rg_rel d n ini c)
  have HI := Lib.hid (show (Try.prog.info? 46).map (·.size) = some d.vals.length from info41 hf.len)
  clear hs hv hf hX hu46 hu48 hcw hbl
  obtain ⟨st, se, al, hgs⟩ : ∃ st se al, rgS d n ini c = (st, se, al) := ⟨_, _, _, rfl⟩
  rw [hgs] at GA HRG
  clear hgs
  generalize hd' : gateD d n ini c = d' at *
  clear hd'
  have hcv : c.val (.slice A n0 cp) = .agg #[.int .i64 c.kind, .int .i64 c.lba, .int .i64 c.count, .slice A n0 cp, .int .u64 c.key, .int .i64 c.res, .bool c.keep] := rfl
  rw [hcv]
  clear hcv
  go_enter Try.func17, Try.ntmps17
  go_upto_region 1 with (fail)
  change Code.wp _ _ _ _ ((((w.alloc (.cells (ucells d (.slice A1 n c1)) 48)).alloc (.cells (Cmd.arr c (.slice A n0 cp)) 35)).alloc (.cells (rep 0 0) 31)).alloc (.cells (ucells Dk.new (.slice none 0 0)) 48))
  generalize ((((w.alloc (.cells (ucells d (.slice A1 n c1)) 48)).alloc (.cells (Cmd.arr c (.slice A n0 cp)) 35)).alloc (.cells (rep 0 0) 31)).alloc (.cells (ucells Dk.new (.slice none 0 0)) 48)) = w1 at *
  have k19 := HX.out.c19 HF.out.len
  have HDK := Lib.hid HX.out.dk
  go_wp2_with (first
    | (refine wpList_load_mid rfl 46 _ rfl w.heap.size 0 (by rfl) d.vals _ HDK.out HU46.out rfl HI.out ?_)
    | (refine wpList_load_row_g rfl 35 _ rfl (w.heap.size + 1) rfl 35 _ (0, 0) _ HX.out.cm Try.underlying35 rfl (by kernel_rfl) ?_))
  refine (GA.out _ HX.out.bel).mono ?_
  rintro e w2 ⟨rfl, hb2⟩
  have HX2 := Lib.hid (HX.out.below hb2)
  clear hb2 GA HX k19 HDK
  have h2 := HX2.out.two (rep st se) d'.cells Dk.new.cells
  have HX3 := Lib.hid h2.1
  have HB8 := Lib.hid h2.2.1
  have HB10 := Lib.hid h2.2.2
  have HL8 := Lib.hid HX2.out.sz
  have hsz46 : Dk.new.cells.size = d'.cells.size := by rw [cells_size HF2.out.len]; rfl
  go_upto_region 2 with (first
    | (refine wpList_store_row rfl 31 _ _ rfl w2.heap.size (rep st se) rfl rfl 31 _ (Wd.two_first w2 _ _) (by kernel_rfl) rfl (rep_one _ _) ?_)
    | (refine wpList_store_row rfl 46 _ _ rfl (w2.heap.size + 1) d'.cells rfl rfl 46 _ (two_last' w2 (rep st se)) (info41 HF2.out.len) hsz46 (one41 _) ?_))
  clear h2 HX2 hsz46
  change Code.wp _ _ _ _ ((((w2.alloc (.cells (rep 0 0) 31)).alloc (.cells Dk.new.cells 46)).setRow w2.heap.size (rep st se)).setRow (w2.heap.size + 1) d'.cells)
  generalize (((w2.alloc (.cells (rep 0 0) 31)).alloc (.cells Dk.new.cells 46)).setRow w2.heap.size (rep st se)).setRow (w2.heap.size + 1) d'.cells = w3 at *
  generalize w2.heap.size = b8 at *
  try simp only [Act.put]
  have HT : Hid (w3.there w.heap.size 0 d'.cells.size) := Lib.hid (by rw [cells_size HF2.out.len]; exact HX3.out.there HF.out.len rfl)
  have HSET : Hid (w3.setCells w.heap.size 0 d'.cells.toList = w3.setRow w.heap.size (ucells d' (.slice A1 n c1))) := Lib.hid (HX3.out.desk HF.out.len HF2.out.len)
  go_upto_region 3 with (first
    | (refine wpList_load_row_g rfl 46 _ rfl (b8 + 1) rfl 46 _ (0, 0) _ HB10.out HU46.out rfl (info41 HF2.out.len) ?_)
    | (refine wpList_store_mid rfl 46 _ _ rfl w.heap.size 0 d'.cells (by rfl) (by rfl) HT.out (info41 HF2.out.len) (one41 _) ?_))
  rw [HSET.out]
  have HX4 := Lib.hid (HX3.out.setUn d' (.slice A1 n c1))
  have HB4 := Lib.hid ((Only.setRow (w := w3) (g := w.heap.size) (ucells d' (.slice A1 n c1)) |>.block b8 (lt_of_heap HB8.out) (by have := HL8.out; simp; omega)).trans HB8.out)
  clear HSET HT HX3 HB8 HB10
  generalize World.setRow _ _ _ = w4 at *
  try simp only [Act.put]
  have hszu : (ucells Dk.new (.slice none 0 0)).size = (ucells d' (.slice A1 n c1)).size := by rw [usize HF2.out.len]; rfl
  cases al with
  | true =>
    as_aux_lemma =>
      have HP := Lib.hid (do_all (d := d) (n := n) (bs := bs) (ini := ini) (c := c) (st := st) (se := se) (HRG.out.1 rfl).symm)
      go_upto_region 4 with (fail)
      refine wp_region_held_drew (S := (fun W => W.heap[w.heap.size]? = some (.cells (ucells d' (.slice A1 n c1)) 48 (0, 0)) ∧ W.heap[b8]? = some (.cells (rep st se) 31 (0, 0)))) (by kernel_rfl) ⟨HX4.out.un, HB4.out⟩ (fun hS => ?_)
      have HY4 := Lib.hid (HX4.out.below (Below.refl _ _).drew)
      generalize World.drew _ = wr0 at *
      refine wpAnyH_take (i := 0) (v := .agg (rep st se)) rfl (by kernel_rfl) (by kernel_rfl) (by kernel_rfl) (fun _ _ _ h => h) (Or.inl ⟨by rfl, fun w' hSw => ?_⟩) hS ?_
      · exact exec_load_row 31 _ rfl b8 rfl 31 _ (0, 0) _ hSw.2 Try.underlying31 rfl (by kernel_rfl)
      try simp only [Act.put, List.getElem_toArray, List.getElem_cons_succ, List.getElem_cons_zero, List.setIfInBounds_toArray, List.set_cons_zero, List.set_cons_succ]
      refine wpAnyH_take (i := 1) (v := .agg (ucells d' (.slice A1 n c1))) rfl (by kernel_rfl) (by kernel_rfl) (by kernel_rfl) (fun _ _ _ h => h) (Or.inl ⟨by rfl, fun w' hSw => ?_⟩) hS ?_
      · exact exec_load_row 48 _ rfl w.heap.size rfl 48 _ (0, 0) _ hSw.1 HU48.out rfl (info48 HF2.out.len _)
      try simp only [Act.put, List.getElem_toArray, List.getElem_cons_succ, List.getElem_cons_zero, List.setIfInBounds_toArray, List.set_cons_zero, List.set_cons_succ]
      refine wpAnyH_ready (rs := [2]) (by kernel_rfl) (by simp) ?_
      refine AllReadyH.cons rfl (fun K hK => ?_) AllReadyH.nil
      rw [if_pos (by rfl)]
      refine wp_store_row 31 _ _ rfl (w.heap.size + 2) (rep st se) rfl rfl 31 _ HY4.out.rp (by kernel_rfl) rfl (by first | exact rep_one _ _ | exact rep_one3 _ _ _ _ _) ?_
      have HX5z := Lib.hid (HY4.out.setRp (rep st se))
      have hE5 := (Only.setRow (w := wr0) (g := w.heap.size + 2) (rep st se) |>.block b8 (lt_of_heap hS.2) (by have := HL8.out; simp <;> omega)).trans hS.2
      refine hK.out _ _ ⟨HX5z.out.un, hE5⟩ (fun hS => ?_)
      clear hK K HY4
      try simp only [Act.put, List.getElem_toArray, List.getElem_cons_succ, List.getElem_cons_zero, List.setIfInBounds_toArray, List.set_cons_zero, List.set_cons_succ]
      generalize World.setRow _ _ _ = wr1 at *
      refine wpAnyH_ready (rs := [3]) (by kernel_rfl) (by simp) ?_
      refine AllReadyH.cons rfl (fun K hK => ?_) AllReadyH.nil
      rw [if_pos (by rfl)]
      refine wp_store_row 48 _ _ rfl (w.heap.size + 3) (ucells d' (.slice A1 n c1)) rfl rfl 48 _ HX5z.out.ru (info48 HF2.out.len _) (by rw [usize HF2.out.len]; rfl) uone ?_
      have HX6 := Lib.hid (HX5z.out.setRu (ucells d' (.slice A1 n c1)))
      have hE6 := (Only.setRow (w := wr1) (g := w.heap.size + 3) (ucells d' (.slice A1 n c1)) |>.block b8 (lt_of_heap hS.2) (by have := HL8.out; simp <;> omega)).trans hS.2
      refine hK.out _ _ ⟨HX6.out.un, hE6⟩ (fun hS => ?_)
      clear hK K HX5z
      try simp only [Act.put, List.getElem_toArray, List.getElem_cons_succ, List.getElem_cons_zero, List.setIfInBounds_toArray, List.set_cons_zero, List.set_cons_succ]
      refine wpAnyH_done (by kernel_rfl) ?_ _
      go_wp2_with (fail)
      refine bodyPost_ret (results_cc rfl _ _ (w.heap.size + 2) (w.heap.size + 3) 31 48 _ _ (0, 0) (0, 0) _ _ rfl HX6.out.rp Try.underlying31 rfl (by kernel_rfl) rfl HX6.out.ru HU48.out rfl (info48 HF2.out.len _)) rfl ?_
      rw [HP.out.1, HP.out.2.1, HP.out.2.2.1, HP.out.2.2.2]
      exact ⟨none, 0, 0, A1, c1, rfl, Rd.nil _ _, .inl ⟨rfl, rfl⟩, HX6.out.bel⟩
  | false =>
    obtain ⟨gst, gse, gal, hgg⟩ : ∃ st se al, gateS d n ini c = (st, se, al) := ⟨_, _, _, rfl⟩
    obtain rfl : gal = false := by have := HRG.out.2 rfl; rw [hgg] at this; exact this
    have HGS := Lib.hid hgg
    have hchk := gate_by hgg
    clear hgg HRG HB4
    have hv4 := HV.out.below HX4.out.bel
    have hnn : (n : Nat) * 16 ≤ 140737488355328 := by omega
    obtain ⟨v5, w5, hr5, ho5, hb5, -⟩ := Wd.copy_secs w4 (.slice A1 n c1) n (u8s bs) hv4 (Wd.u8s_one _) hnn
    obtain ⟨A5, c5, rfl, hc5, -⟩ := Wd.own_form ho5
    obtain ⟨r5, rfl, hr5b, -⟩ := Wd.own_addr ho5 (by omega)
    have HR5 := Lib.hid hr5
    have HO5 := Lib.hid ho5
    have HX5 := Lib.hid (HX4.out.below hb5)
    have HLW : Hid (w.heap.size ≤ w4.heap.size) := Lib.hid HX4.out.bel.size
    have HL5 : Hid (w.heap.size + 3 < r5) := Lib.hid (Nat.lt_of_lt_of_le HX4.out.sz hr5b)
    have k19 := (HX4.out.below (balloc w4 (.cells #[] 24))).c19 HF2.out.len
    clear hr5 ho5 hb5 hv4 hr5b hnn
    go_upto_region 6 with (first | (at_builtin; refine Wd.wpList_append_ran rfl (.tmp 31) (.tmp 33) 22 rfl _ _ rfl rfl _ w5 HR5.out ?_))
    clear k19 HR5 HX4
    have k0 := HX5.out.c0
    try simp only [Act.put]
    by_cases e2 : c.kind = 2
    · as_aux_lemma =>
        have hp := do_k2 (bs := bs) HGS.out e2
        obtain ⟨l, k, hl, hk, hk1, hk8, hlk⟩ := chk_2 hchk (.inl e2)
        rw [hl, hk, Int.toNat_natCast, Int.toNat_natCast] at hp
        have HP := Lib.hid hp
        have m2 := bT e2
        have hwr : IntKind.i64.wrap ((l : Int) + (k : Int)) = (l : Int) + (k : Int) := Wd.wrap_i64 (by omega) (by omega)
        clear hp e2 hchk HGS
        go_upto_region 8 with (fail)
        clear k0
        refine wp_region_held_drew (S := (fun W => W.heap[w.heap.size]? = some (.cells (ucells d' (.slice A1 n c1)) 48 (0, 0)) ∧ W.heap[w.heap.size + 1]? = some (.cells (Cmd.arr c (.slice A n0 cp)) 35 (0, 0)))) (by kernel_rfl) ⟨HX5.out.un, HX5.out.cm⟩ (fun hS => ?_)
        have HY3 := Lib.hid (HX5.out.below (Below.refl _ _).drew)
        have HOq := Lib.hid (World.ownsRow.drew HO5.out)
        generalize World.drew _ = wq at *
        obtain ⟨v6, wr0, hr6, ho6, hb6, -⟩ := Wd.copy_secs wq (.slice (some ⟨r5, l * 16, none⟩) k (c5 - l)) k _ (own_rd HOq.out hk1 hlk) (Wd.u8s_one _) (by omega)
        obtain ⟨A6, c6, rfl, -, -⟩ := Wd.own_form ho6
        obtain ⟨r6, rfl, hr6b, -⟩ := Wd.own_addr ho6 (by omega)
        have HR6 := Lib.hid hr6
        have HOa := Lib.hid ho6
        have HY4 := Lib.hid (HY3.out.below hb6)
        have HL6 : Hid (w.heap.size + 3 < r6) := Lib.hid (Nat.lt_of_lt_of_le HY3.out.sz hr6b)
        clear hr6 ho6 hb6 hr6b HOq
        refine wpAnyH_take (i := 1) (v := ?_) rfl (by kernel_rfl) (by kernel_rfl) (by kernel_rfl) (fun _ _ _ h => h) (Or.inl ⟨by rfl, ?_⟩) hS ?_
        rotate_left
        · intro w' hSw; go_simp; try rfl
        try simp only [Act.put, List.getElem_toArray, List.getElem_cons_succ, List.getElem_cons_zero, List.setIfInBounds_toArray, List.set_cons_zero, List.set_cons_succ]
        refine wpAnyH_take (i := 2) (v := ?_) rfl (by kernel_rfl) (by kernel_rfl) (by kernel_rfl) (fun _ _ _ h => h) (Or.inl ⟨by rfl, ?_⟩) hS ?_
        rotate_left
        · intro w' hSw; go_simp; try rfl
        try simp only [Act.put, List.getElem_toArray, List.getElem_cons_succ, List.getElem_cons_zero, List.setIfInBounds_toArray, List.set_cons_zero, List.set_cons_succ]
        refine wpAnyH_take (i := 3) (v := ?_) rfl (by kernel_rfl) (by kernel_rfl) (by kernel_rfl) (fun _ _ _ h => h) (Or.inl ⟨by rfl, ?_⟩) hS ?_
        rotate_left
        · intro w' hSw; have kk1 := (cell_of_heap hSw.2 1).trans (show (Cmd.arr c _)[1]? = some (Value.int .i64 (l : Int)) from by rw [← hl]; rfl); go_simp; try rfl
        try simp only [Act.put, List.getElem_toArray, List.getElem_cons_succ, List.getElem_cons_zero, List.setIfInBounds_toArray, List.set_cons_zero, List.set_cons_succ]
        refine wpAnyH_take (i := 4) (v := ?_) rfl (by kernel_rfl) (by kernel_rfl) (by kernel_rfl) (fun _ _ _ h => h) (Or.inl ⟨by rfl, ?_⟩) hS ?_
        rotate_left
        · intro w' hSw; go_simp; try rfl
        try simp only [Act.put, List.getElem_toArray, List.getElem_cons_succ, List.getElem_cons_zero, List.setIfInBounds_toArray, List.set_cons_zero, List.set_cons_succ]
        refine wpAnyH_take (i := 5) (v := ?_) rfl (by kernel_rfl) (by kernel_rfl) (by kernel_rfl) (fun _ _ _ h => h) (Or.inl ⟨by rfl, ?_⟩) hS ?_
        rotate_left
        · intro w' hSw; have kk1 := (cell_of_heap hSw.2 1).trans (show (Cmd.arr c _)[1]? = some (Value.int .i64 (l : Int)) from by rw [← hl]; rfl); go_simp; try rfl
        try simp only [Act.put, List.getElem_toArray, List.getElem_cons_succ, List.getElem_cons_zero, List.setIfInBounds_toArray, List.set_cons_zero, List.set_cons_succ]
        refine wpAnyH_take (i := 6) (v := ?_) rfl (by kernel_rfl) (by kernel_rfl) (by kernel_rfl) (fun _ _ _ h => h) (Or.inl ⟨by rfl, ?_⟩) hS ?_
        rotate_left
        · intro w' hSw; go_simp; try rfl
        try simp only [Act.put, List.getElem_toArray, List.getElem_cons_succ, List.getElem_cons_zero, List.setIfInBounds_toArray, List.set_cons_zero, List.set_cons_succ]
        refine wpAnyH_take (i := 7) (v := ?_) rfl (by kernel_rfl) (by kernel_rfl) (by kernel_rfl) (fun _ _ _ h => h) (Or.inl ⟨by rfl, ?_⟩) hS ?_
        rotate_left
        · intro w' hSw; have kk2 := (cell_of_heap hSw.2 2).trans (show (Cmd.arr c _)[2]? = some (Value.int .i64 (k : Int)) from by rw [← hk]; rfl); go_simp; try rfl
        try simp only [Act.put, List.getElem_toArray, List.getElem_cons_succ, List.getElem_cons_zero, List.setIfInBounds_toArray, List.set_cons_zero, List.set_cons_succ]
        refine wpAnyH_take (i := 8) (v := ?_) rfl (by kernel_rfl) (by kernel_rfl) (by kernel_rfl) (fun _ _ _ h => h) (Or.inl ⟨by rfl, ?_⟩) hS ?_
        rotate_left
        · intro w' hSw; go_simp; try rfl
        try simp only [Act.put, List.getElem_toArray, List.getElem_cons_succ, List.getElem_cons_zero, List.setIfInBounds_toArray, List.set_cons_zero, List.set_cons_succ]
        refine wpAnyH_take (i := 9) (v := .slice (some ⟨r5, l * 16, none⟩) k (c5 - l)) rfl (by kernel_rfl) (by kernel_rfl) (by kernel_rfl) (fun _ _ _ h => h) (Or.inl ⟨by rfl, fun w' hSw => ?_⟩) hS ?_
        · go_simp
          rw [if_pos (by omega), if_pos (by omega), if_neg (by omega), show ((l : Int) + (k : Int)).toNat - l = k from by omega]
        try simp only [Act.put, List.getElem_toArray, List.getElem_cons_succ, List.getElem_cons_zero, List.setIfInBounds_toArray, List.set_cons_zero, List.set_cons_succ]
        refine wpAnyH_take (i := 12) (v := .agg (ucells d' (.slice A1 n c1))) rfl (by kernel_rfl) (by kernel_rfl) (by kernel_rfl) (fun _ _ _ h => h) (Or.inl ⟨by rfl, fun w' hSw => ?_⟩) hS ?_
        · exact exec_load_row 48 _ rfl w.heap.size rfl 48 _ (0, 0) _ hSw.1 HU48.out rfl (info48 HF2.out.len _)
        try simp only [Act.put, List.getElem_toArray, List.getElem_cons_succ, List.getElem_cons_zero, List.setIfInBounds_toArray, List.set_cons_zero, List.set_cons_succ]
        clear hwr
        refine wpAnyH_ready (rs := [0]) (by kernel_rfl) (by simp) ?_
        refine AllReadyH.cons rfl (fun K hK => ?_) AllReadyH.nil
        have hbq := HY3.out.below (balloc wq (.cells #[] 24))
        go_simp
        refine hK.out _ _ ⟨hbq.un, hbq.cm⟩ (fun hS => ?_)
        clear hK K hbq
        try simp only [Act.put, List.getElem_toArray, List.getElem_cons_succ, List.getElem_cons_zero, List.setIfInBounds_toArray, List.set_cons_zero, List.set_cons_succ]
        refine wpAnyH_ready (rs := [10]) (by kernel_rfl) (by simp) ?_
        refine AllReadyH.cons rfl (fun K hK => ?_) AllReadyH.nil
        rw [if_pos (by rfl)]
        refine wp_append_run (.tmp 39) (.tmp 48) 22 22 rfl _ _ HR6.out ?_
        refine hK.out _ _ ⟨HY4.out.un, HY4.out.cm⟩ (fun hS => ?_)
        clear hK K HR6 HY3
        try simp only [Act.put, List.getElem_toArray, List.getElem_cons_succ, List.getElem_cons_zero, List.setIfInBounds_toArray, List.set_cons_zero, List.set_cons_succ]
        refine wpAnyH_take (i := 11) (v := ?_) rfl (by kernel_rfl) (by kernel_rfl) (by kernel_rfl) (fun _ _ _ h => h) (Or.inl ⟨by rfl, ?_⟩) hS ?_
        rotate_left
        · intro w' hSw; go_simp; try rfl
        try simp only [Act.put, List.getElem_toArray, List.getElem_cons_succ, List.getElem_cons_zero, List.setIfInBounds_toArray, List.set_cons_zero, List.set_cons_succ]
        refine wpAnyH_ready (rs := [13]) (by kernel_rfl) (by simp) ?_
        refine AllReadyH.cons rfl (fun K hK => ?_) AllReadyH.nil
        rw [if_pos (by rfl)]
        refine wp_store_row 31 _ _ rfl (w.heap.size + 2) (#[.int .i64 1, .int .i64 0, .slice (some ⟨r6, 0, none⟩) k c6]) rfl rfl 31 _ HY4.out.rp (by kernel_rfl) rfl (by first | exact rep_one _ _ | exact rep_one3 _ _ _ _ _) ?_
        have HX5z := Lib.hid (HY4.out.setRp (#[.int .i64 1, .int .i64 0, .slice (some ⟨r6, 0, none⟩) k c6]))
        have hE5 := (Only.setRow (w := wr0) (g := w.heap.size + 2) (#[.int .i64 1, .int .i64 0, .slice (some ⟨r6, 0, none⟩) k c6]) |>.block (w.heap.size + 1) (lt_of_heap hS.2) (by have := HL8.out; simp <;> omega)).trans hS.2
        have HOb := Lib.hid (own_far HOa.out (g := w.heap.size + 2) (by have := HL6.out; omega) (#[.int .i64 1, .int .i64 0, .slice (some ⟨r6, 0, none⟩) k c6]))
        refine hK.out _ _ ⟨HX5z.out.un, hE5⟩ (fun hS => ?_)
        clear hK K HY4 HOa
        try simp only [Act.put, List.getElem_toArray, List.getElem_cons_succ, List.getElem_cons_zero, List.setIfInBounds_toArray, List.set_cons_zero, List.set_cons_succ]
        generalize World.setRow _ _ _ = wr1 at *
        refine wpAnyH_ready (rs := [14]) (by kernel_rfl) (by simp) ?_
        refine AllReadyH.cons rfl (fun K hK => ?_) AllReadyH.nil
        rw [if_pos (by rfl)]
        refine wp_store_row 48 _ _ rfl (w.heap.size + 3) (ucells d' (.slice A1 n c1)) rfl rfl 48 _ HX5z.out.ru (info48 HF2.out.len _) (by rw [usize HF2.out.len]; rfl) uone ?_
        have HX6 := Lib.hid (HX5z.out.setRu (ucells d' (.slice A1 n c1)))
        have hE6 := (Only.setRow (w := wr1) (g := w.heap.size + 3) (ucells d' (.slice A1 n c1)) |>.block (w.heap.size + 1) (lt_of_heap hS.2) (by have := HL8.out; simp <;> omega)).trans hS.2
        have HOc := Lib.hid (own_far HOb.out (g := w.heap.size + 3) (by have := HL6.out; omega) (ucells d' (.slice A1 n c1)))
        refine hK.out _ _ ⟨HX6.out.un, hE6⟩ (fun hS => ?_)
        clear hK K HX5z HOb
        try simp only [Act.put, List.getElem_toArray, List.getElem_cons_succ, List.getElem_cons_zero, List.setIfInBounds_toArray, List.set_cons_zero, List.set_cons_succ]
        refine wpAnyH_done (by kernel_rfl) ?_ _
        go_wp2_with (fail)
        refine bodyPost_ret (results_cc rfl _ _ (w.heap.size + 2) (w.heap.size + 3) 31 48 _ _ (0, 0) (0, 0) _ _ rfl HX6.out.rp Try.underlying31 rfl (by kernel_rfl) rfl HX6.out.ru HU48.out rfl (info48 HF2.out.len _)) rfl ?_
        rw [HP.out.1, HP.out.2.1, HP.out.2.2.1, HP.out.2.2.2]
        exact ⟨some ⟨r6, 0, none⟩, k, c6, A1, c1, rfl, Rd.of_own HOc.out, .inl ⟨rfl, rfl⟩, HX6.out.bel⟩
    by_cases e5 : c.kind = 5
    · as_aux_lemma =>
        have m2 := bF e2
        have m5 := bT e5
        obtain ⟨hn2, l, hl, hlk⟩ := chk_5 hchk e5
        obtain ⟨hn0, b, off, hA, -, hsrc⟩ := secs_src (HS.out.below HX5.out.bel) (by omega)
        subst hA
        rw [hn2] at hn0
        subst hn0
        have hbl := secs_len HS.out
        have hl1 := sec_len HBL.out (i := l) (by omega)
        have hl2 : (c.bs.take 16).length = 16 := by rw [List.length_take, hbl]; omega
        have hl3 : (c.bs.drop 16).length = 16 := by rw [List.length_drop, hbl]; omega
        have hr1 := own_sec HO5.out (l := l) (by omega)
        have hr2 : w5.rangeAt b off (u8s (c.bs.take 16)) := fun j v hv => hsrc j v (by unfold u8s at hv ⊢; rw [List.getElem?_map] at hv ⊢; rw [← hv, List.getElem?_take_of_lt (by have := (List.getElem?_eq_some_iff.1 (show (List.map (Value.int .u8) (c.bs.take 16))[j]? = some v from by rw [List.getElem?_map]; exact hv)).1; rw [List.length_map, hl2] at this; exact this)])
        have hr3 : w5.rangeAt b (off + 16) (u8s (c.bs.drop 16)) := fun j v hv => by
          rw [Nat.add_assoc]
          refine hsrc (16 + j) v ?_
          unfold u8s at hv ⊢
          rw [List.getElem?_map, List.getElem?_drop] at hv
          rw [List.getElem?_map]
          exact hv
        have HE := Lib.hid (fun W => Wd.eq_sec hl1 hl2 W)
        have heg := Wd.eqGuard41
        have kk1 := HX5.out.c1.trans (by rw [hl])
        have kk3 := HX5.out.c3
        have hlI : (l : Int) < (n : Int) := by omega
        have HI1 : Hid ((Try.prog.info? 24).map (·.size) = some (u8s (sec bs l)).length) := Lib.hid (by rw [u8s_len, hl1]; exact info24)
        have HI2 : Hid ((Try.prog.info? 24).map (·.size) = some (u8s (c.bs.take 16)).length) := Lib.hid (by rw [u8s_len, hl2]; exact info24)
        have HI3 : Hid ((Try.prog.info? 24).map (·.size) = some (u8s (c.bs.drop 16)).length) := Lib.hid (by rw [u8s_len, hl3]; exact info24)
        have HI4 : Hid ((Try.prog.info? 24).map (·.size) = some (u8s (c.bs.drop 16)).toArray.size) := Lib.hid (by simp only [List.size_toArray]; rw [u8s_len, hl3]; exact info24)
        have HR1 := Lib.hid hr1
        have HR2 := Lib.hid hr2
        have HR3 := Lib.hid hr3
        have HL3 := Lib.hid hl3
        have hss := do_k5y (bs := bs) HGS.out e5
        have hsn := do_k5n (bs := bs) HGS.out e5
        rw [hl, Int.toNat_natCast] at hss hsn
        have HSS := Lib.hid hss
        have HSN := Lib.hid hsn
        obtain ⟨bq, hbq⟩ : ∃ q, q = decide (sec bs l = c.bs.take 16) := ⟨_, rfl⟩
        rw [← hbq] at HE
        have HBQ := Lib.hid hbq
        clear hss hsn e2 e5 hchk HGS hsrc hr1 hr2 hr3 hl1 hl2 hl3 hbl hn2 hbq
        go_upto_region 10 with (fail)
        refine wp_region_still_lit (by kernel_rfl) (by kernel_rfl) ?_
        still_step
        still_step
        still_step
        still_step
        refine wpStill_run rfl (exec_load_mid 24 _ rfl r5 (l * 16) (by rfl) _ _ HR1.out Try.underlying24 rfl HI1.out) ?_
        try simp only [Act.put, List.getElem_toArray, List.getElem_cons_succ, List.getElem_cons_zero, List.setIfInBounds_toArray, List.set_cons_zero, List.set_cons_succ]
        still_step
        still_step
        still_step
        refine wpStill_run rfl (exec_load_mid 24 _ rfl b off (by rfl) _ _ HR2.out Try.underlying24 rfl HI2.out) ?_
        try simp only [Act.put, List.getElem_toArray, List.getElem_cons_succ, List.getElem_cons_zero, List.setIfInBounds_toArray, List.set_cons_zero, List.set_cons_succ]
        have q := HE.out w5.drew
        still_step
        clear q
        refine wpStill_nil ?_
        have HX7 := Lib.hid (HX5.out.below (Below.refl _ _).drew)
        have HO7 := Lib.hid (World.ownsRow.drew HO5.out)
        have HR7 : Hid (w5.drew.rangeAt b (off + 16) (u8s (c.bs.drop 16))) := HR3
        generalize hw7 : ({ heap := w5.heap, tape := w5.tape, drawn := w5.drawn + 1, os := w5.os, output := w5.output } : World) = w7
        have e7 : w5.drew = w7 := hw7
        rw [e7] at HX7 HO7 HR7
        clear hw7 e7
        clear HR1 HR2 HR3 k0 kk1 kk3 heg HE
        have kk1 := HX7.out.c1.trans (by rw [hl])
        have kk3 := HX7.out.c3
        cases bq with
        | false =>
          have HP := Lib.hid (HSN.out (fun e => by have := HBQ.out; rw [decide_eq_true e] at this; cases this))
          clear HSS HSN HBQ HR7
          go_upto_region 11 with (fail)
          refine wp_region_held_drew (S := (fun W => W.heap[w.heap.size]? = some (.cells (ucells d' (.slice A1 n c1)) 48 (0, 0)))) (by kernel_rfl) HX7.out.un (fun hS => ?_)
          have HY4 := Lib.hid (HX7.out.below (Below.refl _ _).drew)
          generalize World.drew _ = wr0 at *
          refine wpAnyH_take (i := 0) (v := ?_) rfl (by kernel_rfl) (by kernel_rfl) (by kernel_rfl) (fun _ _ _ h => h) (Or.inl ⟨by rfl, ?_⟩) hS ?_
          rotate_left
          · intro w' hSw; go_simp; try rfl
          try simp only [Act.put, List.getElem_toArray, List.getElem_cons_succ, List.getElem_cons_zero, List.setIfInBounds_toArray, List.set_cons_zero, List.set_cons_succ]
          refine wpAnyH_take (i := 1) (v := .agg (ucells d' (.slice A1 n c1))) rfl (by kernel_rfl) (by kernel_rfl) (by kernel_rfl) (fun _ _ _ h => h) (Or.inl ⟨by rfl, fun w' hSw => ?_⟩) hS ?_
          · exact exec_load_row 48 _ rfl w.heap.size rfl 48 _ (0, 0) _ hSw HU48.out rfl (info48 HF2.out.len _)
          try simp only [Act.put, List.getElem_toArray, List.getElem_cons_succ, List.getElem_cons_zero, List.setIfInBounds_toArray, List.set_cons_zero, List.set_cons_succ]
          refine wpAnyH_ready (rs := [2]) (by kernel_rfl) (by simp) ?_
          refine AllReadyH.cons rfl (fun K hK => ?_) AllReadyH.nil
          rw [if_pos (by rfl)]
          refine wp_store_row 31 _ _ rfl (w.heap.size + 2) (rep 2 14) rfl rfl 31 _ HY4.out.rp (by kernel_rfl) rfl (by first | exact rep_one _ _ | exact rep_one3 _ _ _ _ _) ?_
          have HX5z := Lib.hid (HY4.out.setRp (rep 2 14))
          refine hK.out _ _ HX5z.out.un (fun hS => ?_)
          clear hK K HY4
          try simp only [Act.put, List.getElem_toArray, List.getElem_cons_succ, List.getElem_cons_zero, List.setIfInBounds_toArray, List.set_cons_zero, List.set_cons_succ]
          generalize World.setRow _ _ _ = wr1 at *
          refine wpAnyH_ready (rs := [3]) (by kernel_rfl) (by simp) ?_
          refine AllReadyH.cons rfl (fun K hK => ?_) AllReadyH.nil
          rw [if_pos (by rfl)]
          refine wp_store_row 48 _ _ rfl (w.heap.size + 3) (ucells d' (.slice A1 n c1)) rfl rfl 48 _ HX5z.out.ru (info48 HF2.out.len _) (by rw [usize HF2.out.len]; rfl) uone ?_
          have HX6 := Lib.hid (HX5z.out.setRu (ucells d' (.slice A1 n c1)))
          refine hK.out _ _ HX6.out.un (fun hS => ?_)
          clear hK K HX5z
          try simp only [Act.put, List.getElem_toArray, List.getElem_cons_succ, List.getElem_cons_zero, List.setIfInBounds_toArray, List.set_cons_zero, List.set_cons_succ]
          refine wpAnyH_done (by kernel_rfl) ?_ _
          go_wp2_with (fail)
          refine bodyPost_ret (results_cc rfl _ _ (w.heap.size + 2) (w.heap.size + 3) 31 48 _ _ (0, 0) (0, 0) _ _ rfl HX6.out.rp Try.underlying31 rfl (by kernel_rfl) rfl HX6.out.ru HU48.out rfl (info48 HF2.out.len _)) rfl ?_
          rw [HP.out.1, HP.out.2.1, HP.out.2.2.1, HP.out.2.2.2]
          exact ⟨none, 0, 0, A1, c1, rfl, Rd.nil _ _, .inl ⟨rfl, rfl⟩, HX6.out.bel⟩
        | true =>
          have HP := Lib.hid (HSS.out (of_decide_eq_true HBQ.out.symm))
          have hput := own_put (World.ownsRow.drew HO7.out) (o := l * 16) (xs := c.bs.drop 16) (by rw [HL3.out, HBL.out]; omega)
          have HT := Lib.hid hput.1
          have HO9 := Lib.hid hput.2.1
          have HX9 := Lib.hid ((HX7.out.below (Below.refl _ _).drew).far HL5.out hput.2.2)
          clear HSS HSN HBQ hput
          go_upto_region 12 with (fail)
          refine wp_region_still_tail 7 (by kernel_rfl) (by kernel_rfl) ?_
          simp only [List.take_succ_cons, List.take_zero, List.drop_succ_cons, List.drop_zero]
          still_step
          still_step
          still_step
          still_step
          still_step
          still_step
          refine wpStill_run rfl (exec_load_mid 24 _ rfl b (off + 16) (by rfl) _ _ HR7.out Try.underlying24 rfl HI3.out) ?_
          try simp only [Act.put, List.getElem_toArray, List.getElem_cons_succ, List.getElem_cons_zero, List.setIfInBounds_toArray, List.set_cons_zero, List.set_cons_succ]
          refine wpStill_nil ?_
          change wpList _ _ _ _ _ (World.drew _)
          go_upto_region 23 with (first | (refine wpList_store_mid rfl 24 _ _ rfl r5 (l * 16) _ (by rfl) (by rfl) HT.out HI4.out (u8s_all _) ?_))
          clear HT kk1 kk3 HR7
          change Code.wp _ _ _ _ (w7.drew.setCells r5 (l * 16) (u8s (c.bs.drop 16)))
          generalize w7.drew.setCells r5 (l * 16) (u8s (c.bs.drop 16)) = w9 at *
          try simp only [Act.put]
          have k19 := HX9.out.c19 HF2.out.len
          have f19 := HX9.out.f19
          have HX8 := Lib.hid (HX9.out.setSl HF2.out.len (.slice (some ⟨r5, 0, none⟩) n c5))
          have HO8 := Lib.hid (Wd.own_kept HO9.out (Wd.Only.set (p := ⟨w.heap.size, 19, none⟩) (.slice (some ⟨r5, 0, none⟩) n c5)) (fun k hk hm => by have := HL5.out; simp [Value.ownBlock] at hk; simp at hm; omega))
          go_upto_region 24 with (fail)
          clear k19 f19 HX9 HO9
          generalize World.setCell _ _ _ = w8 at *
          try simp only [Act.put]
          refine wp_region_held_drew (S := (fun W => W.heap[w.heap.size]? = some (.cells (ucells d' (.slice (some ⟨r5, 0, none⟩) n c5)) 48 (0, 0)))) (by kernel_rfl) HX8.out.un (fun hS => ?_)
          have HY4 := Lib.hid (HX8.out.below (Below.refl _ _).drew)
          have HOa := Lib.hid (World.ownsRow.drew HO8.out)
          generalize World.drew _ = wr0 at *
          refine wpAnyH_take (i := 0) (v := ?_) rfl (by kernel_rfl) (by kernel_rfl) (by kernel_rfl) (fun _ _ _ h => h) (Or.inl ⟨by rfl, ?_⟩) hS ?_
          rotate_left
          · intro w' hSw; go_simp; try rfl
          try simp only [Act.put, List.getElem_toArray, List.getElem_cons_succ, List.getElem_cons_zero, List.setIfInBounds_toArray, List.set_cons_zero, List.set_cons_succ]
          refine wpAnyH_take (i := 1) (v := .agg (ucells d' (.slice (some ⟨r5, 0, none⟩) n c5))) rfl (by kernel_rfl) (by kernel_rfl) (by kernel_rfl) (fun _ _ _ h => h) (Or.inl ⟨by rfl, fun w' hSw => ?_⟩) hS ?_
          · exact exec_load_row 48 _ rfl w.heap.size rfl 48 _ (0, 0) _ hSw HU48.out rfl (info48 HF2.out.len _)
          try simp only [Act.put, List.getElem_toArray, List.getElem_cons_succ, List.getElem_cons_zero, List.setIfInBounds_toArray, List.set_cons_zero, List.set_cons_succ]
          refine wpAnyH_ready (rs := [2]) (by kernel_rfl) (by simp) ?_
          refine AllReadyH.cons rfl (fun K hK => ?_) AllReadyH.nil
          rw [if_pos (by rfl)]
          refine wp_store_row 31 _ _ rfl (w.heap.size + 2) (rep 1 0) rfl rfl 31 _ HY4.out.rp (by kernel_rfl) rfl (by first | exact rep_one _ _ | exact rep_one3 _ _ _ _ _) ?_
          have HX5z := Lib.hid (HY4.out.setRp (rep 1 0))
          have HOb := Lib.hid (own_far HOa.out (g := w.heap.size + 2) (by have := HL5.out; omega) (rep 1 0))
          refine hK.out _ _ HX5z.out.un (fun hS => ?_)
          clear hK K HY4 HOa
          try simp only [Act.put, List.getElem_toArray, List.getElem_cons_succ, List.getElem_cons_zero, List.setIfInBounds_toArray, List.set_cons_zero, List.set_cons_succ]
          generalize World.setRow _ _ _ = wr1 at *
          refine wpAnyH_ready (rs := [3]) (by kernel_rfl) (by simp) ?_
          refine AllReadyH.cons rfl (fun K hK => ?_) AllReadyH.nil
          rw [if_pos (by rfl)]
          refine wp_store_row 48 _ _ rfl (w.heap.size + 3) (ucells d' (.slice (some ⟨r5, 0, none⟩) n c5)) rfl rfl 48 _ HX5z.out.ru (info48 HF2.out.len _) (by rw [usize HF2.out.len]; rfl) uone ?_
          have HX6 := Lib.hid (HX5z.out.setRu (ucells d' (.slice (some ⟨r5, 0, none⟩) n c5)))
          have HOc := Lib.hid (own_far HOb.out (g := w.heap.size + 3) (by have := HL5.out; omega) (ucells d' (.slice (some ⟨r5, 0, none⟩) n c5)))
          refine hK.out _ _ HX6.out.un (fun hS => ?_)
          clear hK K HX5z HOb
          try simp only [Act.put, List.getElem_toArray, List.getElem_cons_succ, List.getElem_cons_zero, List.setIfInBounds_toArray, List.set_cons_zero, List.set_cons_succ]
          refine wpAnyH_done (by kernel_rfl) ?_ _
          go_wp2_with (fail)
          refine bodyPost_ret (results_cc rfl _ _ (w.heap.size + 2) (w.heap.size + 3) 31 48 _ _ (0, 0) (0, 0) _ _ rfl HX6.out.rp Try.underlying31 rfl (by kernel_rfl) rfl HX6.out.ru HU48.out rfl (info48 HF2.out.len _)) rfl ?_
          rw [HP.out.1, HP.out.2.1, HP.out.2.2.1, HP.out.2.2.2]
          exact ⟨none, 0, 0, some ⟨r5, 0, none⟩, c5, rfl, Rd.nil _ _, .inr (Wd.own_lower HOc.out (by have := HX5.out.bel.size; have := HLW.out; omega)), HX6.out.bel⟩
    by_cases e3 : c.kind = 3
    · as_aux_lemma =>
        have hp := do_k3 (bs := bs) HGS.out e3
        obtain ⟨l, hl, hk1, hk8, hlk⟩ := chk_3 hchk e3
        rw [hl, Int.toNat_natCast] at hp
        have HP := Lib.hid hp
        have m2 := bF e2
        have m5 := bF e5
        have m3 := bT e3
        obtain ⟨hn0, b, off, hA, -, hsrc⟩ := secs_src (HS.out.below HX5.out.bel) (by omega)
        subst hA
        subst hn0
        have HCL := Lib.hid (secs_len HS.out)
        have HO5z := Lib.hid (show w5.ownsRow w4.heap.size 24 16 (.slice (some ⟨r5, 0, none⟩) n c5) n (u8s (splice bs (l * 16) (c.bs.take (0 * 16)))) from by rw [Nat.zero_mul, List.take_zero, splice_nil]; exact HO5.out)
        have HLB := Lib.hid hl
        clear hp e2 e3 e5 hchk HGS hsrc hl
        go_wp2_with (fail)
        clear k0 m2 m3 m5
        go_loopg [12] (c.n) (fun q v12 wr => ∃ i : Nat, i ≤ c.n ∧ v12 = .int .i64 (i : Int) ∧ q = c.n - i ∧ Ux w wr d' (.slice A1 n c1) c (.slice (some ⟨b, off, none⟩) c.n cp) (rep 0 0) (ucells Dk.new (.slice none 0 0)) ∧ wr.ownsRow w4.heap.size 24 16 (.slice (some ⟨r5, 0, none⟩) n c5) n (u8s (splice bs (l * 16) (c.bs.take (i * 16)))))
        case atStart => exact ⟨0, by omega, rfl, rfl, HX5.out, HO5z.out⟩
        case round =>
          obtain ⟨i, hi, rfl, hq, hxr, hor⟩ := hrel
          have HQ := Lib.hid hq
          have HXr := Lib.hid hxr
          have HOr := Lib.hid hor
          have kk1 := hxr.c1.trans (by rw [HLB.out])
          have kk3 := hxr.c3
          clear hq hxr hor HO5z
          by_cases hlt : i < c.n
          · as_aux_lemma =>
              have hltI : (i : Int) < (c.n : Int) := by omega
              obtain ⟨q, hqe, hq2⟩ : ∃ q : Nat, (l : Int) + (i : Int) = (q : Int) ∧ q = l + i := ⟨l + i, by omega, rfl⟩
              have hqn : (q : Int) < (n : Int) := by omega
              have hsl := sec_len HCL.out hlt
              obtain ⟨-, b', off', hA', -, hsrc⟩ := secs_src (HS.out.below HXr.out.bel) hk1
              injection hA' with hA'
              injection hA' with q1 q2
              subst q1
              subst q2
              have HR9 : Hid (wr.drew.rangeAt b (off + i * 16) (u8s (sec c.bs i))) := Lib.hid (fun j v hv => by
                rw [Nat.add_assoc]
                refine hsrc (i * 16 + j) v ?_
                have hj : j < 16 := by have := (List.getElem?_eq_some_iff.1 hv).1; rw [u8s_len] at this; have := sec_le c.bs i; omega
                unfold u8s at hv ⊢
                rw [List.getElem?_map, sec_get _ _ _ hj] at hv
                rw [List.getElem?_map]
                exact hv)
              have HI1 : Hid ((Try.prog.info? 24).map (·.size) = some (u8s (sec c.bs i)).length) := Lib.hid (by rw [u8s_len, hsl]; exact info24)
              have HI2 : Hid ((Try.prog.info? 24).map (·.size) = some (u8s (sec c.bs i)).toArray.size) := Lib.hid (by simp only [List.size_toArray]; rw [u8s_len, hsl]; exact info24)
              have htl : (c.bs.take (i * 16)).length = i * 16 := by rw [List.length_take, HCL.out]; omega
              have hput := own_put (World.ownsRow.drew HOr.out) (o := q * 16) (xs := sec c.bs i) (by rw [length_splice _ _ _ (by rw [htl, HBL.out]; omega), hsl, HBL.out]; omega)
              have HT := Lib.hid hput.1
              have HO9 : Hid ((wr.drew.setCells r5 (q * 16) (u8s (sec c.bs i))).ownsRow w4.heap.size 24 16 (.slice (some ⟨r5, 0, none⟩) n c5) n (u8s (splice bs (l * 16) (c.bs.take ((i + 1) * 16))))) := Lib.hid (by
                have h2 := hput.2.1
                rw [show q * 16 = l * 16 + (c.bs.take (i * 16)).length from by rw [htl]; omega, splice_next _ _ _ _ (by rw [htl, hsl, HBL.out]; omega), take_sec] at h2
                rw [show q * 16 = l * 16 + (c.bs.take (i * 16)).length from by rw [htl]; omega]
                exact h2)
              have HX9 := Lib.hid ((HXr.out.below (Below.refl _ _).drew).far HL5.out hput.2.2)
              clear hput htl hsl hsrc hq2
              go_upto_region 17 with (fail)
              refine wp_region_still_tail 10 (by kernel_rfl) (by kernel_rfl) ?_
              simp only [List.take_succ_cons, List.take_zero, List.drop_succ_cons, List.drop_zero]
              still_step
              still_step
              still_step
              still_step
              still_step
              still_step
              still_step
              still_step
              still_step
              refine wpStill_run rfl (exec_load_mid 24 _ rfl b (off + i * 16) (by rfl) _ _ HR9.out Try.underlying24 rfl HI1.out) ?_
              try simp only [Act.put, List.getElem_toArray, List.getElem_cons_succ, List.getElem_cons_zero, List.setIfInBounds_toArray, List.set_cons_zero, List.set_cons_succ]
              refine wpStill_nil ?_
              change wpList _ _ _ _ _ (World.drew _)
              go_upto_region 16 with (first | (refine wpList_store_mid rfl 24 _ _ rfl r5 (q * 16) _ (by rfl) (by rfl) HT.out HI2.out (u8s_all _) ?_))
              clear HT kk1 kk3 HR9
              change Code.wp _ _ _ _ (wr.drew.setCells r5 (q * 16) (u8s (sec c.bs i)))
              generalize wr.drew.setCells r5 (q * 16) (u8s (sec c.bs i)) = w9 at *
              try simp only [Act.put]
              go_wp2_with (fail)
              go_roundg (c.n - (i + 1))
              case measure => have := HQ.out; omega
              case rel => exact ⟨i + 1, by omega, by go_num, rfl, HX9.out, HO9.out⟩
          · obtain rfl : i = c.n := by omega
            as_aux_lemma =>
              have HOx := Lib.hid (show wr.ownsRow w4.heap.size 24 16 (.slice (some ⟨r5, 0, none⟩) n c5) n (u8s (splice bs (l * 16) c.bs)) from by have := HOr.out; rw [List.take_of_length_le (by rw [HCL.out]; exact Nat.le_refl _)] at this; exact this)
              clear HOr
              go_upto_region 23 with (fail)
              clear kk1 kk3
              have k19 := HXr.out.c19 HF2.out.len
              have f19 := HXr.out.f19
              have HX8 := Lib.hid (HXr.out.setSl HF2.out.len (.slice (some ⟨r5, 0, none⟩) n c5))
              have HO8 := Lib.hid (Wd.own_kept HOx.out (Wd.Only.set (p := ⟨w.heap.size, 19, none⟩) (.slice (some ⟨r5, 0, none⟩) n c5)) (fun k hk hm => by have := HL5.out; simp [Value.ownBlock] at hk; simp at hm; omega))
              go_upto_region 24 with (fail)
              clear k19 f19 HXr HOx
              generalize World.setCell _ _ _ = w8 at *
              try simp only [Act.put]
              refine wp_region_held_drew (S := (fun W => W.heap[w.heap.size]? = some (.cells (ucells d' (.slice (some ⟨r5, 0, none⟩) n c5)) 48 (0, 0)))) (by kernel_rfl) HX8.out.un (fun hS => ?_)
              have HY4 := Lib.hid (HX8.out.below (Below.refl _ _).drew)
              have HOa := Lib.hid (World.ownsRow.drew HO8.out)
              generalize World.drew _ = wr0 at *
              refine wpAnyH_take (i := 0) (v := ?_) rfl (by kernel_rfl) (by kernel_rfl) (by kernel_rfl) (fun _ _ _ h => h) (Or.inl ⟨by rfl, ?_⟩) hS ?_
              rotate_left
              · intro w' hSw; go_simp; try rfl
              try simp only [Act.put, List.getElem_toArray, List.getElem_cons_succ, List.getElem_cons_zero, List.setIfInBounds_toArray, List.set_cons_zero, List.set_cons_succ]
              refine wpAnyH_take (i := 1) (v := .agg (ucells d' (.slice (some ⟨r5, 0, none⟩) n c5))) rfl (by kernel_rfl) (by kernel_rfl) (by kernel_rfl) (fun _ _ _ h => h) (Or.inl ⟨by rfl, fun w' hSw => ?_⟩) hS ?_
              · exact exec_load_row 48 _ rfl w.heap.size rfl 48 _ (0, 0) _ hSw HU48.out rfl (info48 HF2.out.len _)
              try simp only [Act.put, List.getElem_toArray, List.getElem_cons_succ, List.getElem_cons_zero, List.setIfInBounds_toArray, List.set_cons_zero, List.set_cons_succ]
              refine wpAnyH_ready (rs := [2]) (by kernel_rfl) (by simp) ?_
              refine AllReadyH.cons rfl (fun K hK => ?_) AllReadyH.nil
              rw [if_pos (by rfl)]
              refine wp_store_row 31 _ _ rfl (w.heap.size + 2) (rep 1 0) rfl rfl 31 _ HY4.out.rp (by kernel_rfl) rfl (by first | exact rep_one _ _ | exact rep_one3 _ _ _ _ _) ?_
              have HX5z := Lib.hid (HY4.out.setRp (rep 1 0))
              have HOb := Lib.hid (own_far HOa.out (g := w.heap.size + 2) (by have := HL5.out; omega) (rep 1 0))
              refine hK.out _ _ HX5z.out.un (fun hS => ?_)
              clear hK K HY4 HOa
              try simp only [Act.put, List.getElem_toArray, List.getElem_cons_succ, List.getElem_cons_zero, List.setIfInBounds_toArray, List.set_cons_zero, List.set_cons_succ]
              generalize World.setRow _ _ _ = wr1 at *
              refine wpAnyH_ready (rs := [3]) (by kernel_rfl) (by simp) ?_
              refine AllReadyH.cons rfl (fun K hK => ?_) AllReadyH.nil
              rw [if_pos (by rfl)]
              refine wp_store_row 48 _ _ rfl (w.heap.size + 3) (ucells d' (.slice (some ⟨r5, 0, none⟩) n c5)) rfl rfl 48 _ HX5z.out.ru (info48 HF2.out.len _) (by rw [usize HF2.out.len]; rfl) uone ?_
              have HX6 := Lib.hid (HX5z.out.setRu (ucells d' (.slice (some ⟨r5, 0, none⟩) n c5)))
              have HOc := Lib.hid (own_far HOb.out (g := w.heap.size + 3) (by have := HL5.out; omega) (ucells d' (.slice (some ⟨r5, 0, none⟩) n c5)))
              refine hK.out _ _ HX6.out.un (fun hS => ?_)
              clear hK K HX5z HOb
              try simp only [Act.put, List.getElem_toArray, List.getElem_cons_succ, List.getElem_cons_zero, List.setIfInBounds_toArray, List.set_cons_zero, List.set_cons_succ]
              refine wpAnyH_done (by kernel_rfl) ?_ _
              go_wp2_with (fail)
              refine bodyPost_ret (results_cc rfl _ _ (w.heap.size + 2) (w.heap.size + 3) 31 48 _ _ (0, 0) (0, 0) _ _ rfl HX6.out.rp Try.underlying31 rfl (by kernel_rfl) rfl HX6.out.ru HU48.out rfl (info48 HF2.out.len _)) rfl ?_
              rw [HP.out.1, HP.out.2.1, HP.out.2.2.1, HP.out.2.2.2]
              exact ⟨none, 0, 0, some ⟨r5, 0, none⟩, c5, rfl, Rd.nil _ _, .inr (Wd.own_lower HOc.out (by have := HX5.out.bel.size; have := HLW.out; omega)), HX6.out.bel⟩
    by_cases e6 : c.kind = 6
    · as_aux_lemma =>
        have hp := do_k6 (bs := bs) HGS.out e6
        obtain ⟨l, k, hl, hk, hk1, hk8, hlk⟩ := chk_2 hchk (.inr e6)
        rw [hl, hk, Int.toNat_natCast, Int.toNat_natCast] at hp
        have HP := Lib.hid hp
        have m2 := bF e2
        have m5 := bF e5
        have m3 := bF e3
        have m6 := bT e6
        have HO5z := Lib.hid (show w5.ownsRow w4.heap.size 24 16 (.slice (some ⟨r5, 0, none⟩) n c5) n (u8s (splice bs (l * 16) (List.replicate (0 * 16) 0))) from by rw [Nat.zero_mul, List.replicate_zero, splice_nil]; exact HO5.out)
        have HLB := Lib.hid hl
        have HKB := Lib.hid hk
        clear hp e2 e3 e5 e6 hchk HGS hl hk
        go_wp2_with (fail)
        clear k0 m2 m3 m5 m6
        go_loopg [13] (k) (fun q v13 wr => ∃ i : Nat, i ≤ k ∧ v13 = .int .i64 (i : Int) ∧ q = k - i ∧ Ux w wr d' (.slice A1 n c1) c (.slice A n0 cp) (rep 0 0) (ucells Dk.new (.slice none 0 0)) ∧ wr.ownsRow w4.heap.size 24 16 (.slice (some ⟨r5, 0, none⟩) n c5) n (u8s (splice bs (l * 16) (List.replicate (i * 16) 0))))
        case atStart => exact ⟨0, by omega, rfl, rfl, HX5.out, HO5z.out⟩
        case round =>
          obtain ⟨i, hi, rfl, hq, hxr, hor⟩ := hrel
          have HQ := Lib.hid hq
          have HXr := Lib.hid hxr
          have HOr := Lib.hid hor
          have kk1 := hxr.c1.trans (by rw [HLB.out])
          have kk2 := hxr.c2.trans (by rw [HKB.out])
          clear hq hxr hor HO5z
          by_cases hlt : i < k
          · as_aux_lemma =>
              have hltI : (i : Int) < (k : Int) := by omega
              obtain ⟨q, hqe, hq2⟩ : ∃ q : Nat, (l : Int) + (i : Int) = (q : Int) ∧ q = l + i := ⟨l + i, by omega, rfl⟩
              have hqn : (q : Int) < (n : Int) := by omega
              have HI2 : Hid ((Try.prog.info? 24).map (·.size) = some (u8s zsec).toArray.size) := Lib.hid info24
              have htl : (List.replicate (i * 16) (0 : Int)).length = i * 16 := List.length_replicate
              have hsl : zsec.length = 16 := rfl
              have hput := own_put HOr.out (o := q * 16) (xs := zsec) (by rw [length_splice _ _ _ (by rw [htl, HBL.out]; omega), hsl, HBL.out]; omega)
              have HT := Lib.hid hput.1
              have HO9 : Hid ((wr.setCells r5 (q * 16) (u8s zsec)).ownsRow w4.heap.size 24 16 (.slice (some ⟨r5, 0, none⟩) n c5) n (u8s (splice bs (l * 16) (List.replicate ((i + 1) * 16) 0)))) := Lib.hid (by
                have h2 := hput.2.1
                rw [show q * 16 = l * 16 + (List.replicate (i * 16) (0 : Int)).length from by rw [htl]; omega, splice_next _ _ _ _ (by rw [htl, hsl, HBL.out]; omega), rep_sec] at h2
                rw [show q * 16 = l * 16 + (List.replicate (i * 16) (0 : Int)).length from by rw [htl]; omega]
                exact h2)
              have HX9 := Lib.hid (HXr.out.far HL5.out hput.2.2)
              clear hput htl hsl hq2
              go_upto_region 21 with (first | (refine wpList_store_mid rfl 24 _ _ rfl r5 (q * 16) (u8s zsec).toArray (by rfl) (by rfl) HT.out HI2.out (u8s_all _) ?_))
              clear HT kk1 kk2
              change Code.wp _ _ _ _ (wr.setCells r5 (q * 16) (u8s zsec))
              generalize wr.setCells r5 (q * 16) (u8s zsec) = w9 at *
              try simp only [Act.put]
              go_wp2_with (fail)
              go_roundg (k - (i + 1))
              case measure => have := HQ.out; omega
              case rel => exact ⟨i + 1, by omega, by go_num, rfl, HX9.out, HO9.out⟩
          · obtain rfl : i = k := by omega
            as_aux_lemma =>
              go_upto_region 23 with (fail)
              clear kk1 kk2
              have k19 := HXr.out.c19 HF2.out.len
              have f19 := HXr.out.f19
              have HX8 := Lib.hid (HXr.out.setSl HF2.out.len (.slice (some ⟨r5, 0, none⟩) n c5))
              have HO8 := Lib.hid (Wd.own_kept HOr.out (Wd.Only.set (p := ⟨w.heap.size, 19, none⟩) (.slice (some ⟨r5, 0, none⟩) n c5)) (fun k hk hm => by have := HL5.out; simp [Value.ownBlock] at hk; simp at hm; omega))
              go_upto_region 24 with (fail)
              clear k19 f19 HXr HOr
              generalize World.setCell _ _ _ = w8 at *
              try simp only [Act.put]
              refine wp_region_held_drew (S := (fun W => W.heap[w.heap.size]? = some (.cells (ucells d' (.slice (some ⟨r5, 0, none⟩) n c5)) 48 (0, 0)))) (by kernel_rfl) HX8.out.un (fun hS => ?_)
              have HY4 := Lib.hid (HX8.out.below (Below.refl _ _).drew)
              have HOa := Lib.hid (World.ownsRow.drew HO8.out)
              generalize World.drew _ = wr0 at *
              refine wpAnyH_take (i := 0) (v := ?_) rfl (by kernel_rfl) (by kernel_rfl) (by kernel_rfl) (fun _ _ _ h => h) (Or.inl ⟨by rfl, ?_⟩) hS ?_
              rotate_left
              · intro w' hSw; go_simp; try rfl
              try simp only [Act.put, List.getElem_toArray, List.getElem_cons_succ, List.getElem_cons_zero, List.setIfInBounds_toArray, List.set_cons_zero, List.set_cons_succ]
              refine wpAnyH_take (i := 1) (v := .agg (ucells d' (.slice (some ⟨r5, 0, none⟩) n c5))) rfl (by kernel_rfl) (by kernel_rfl) (by kernel_rfl) (fun _ _ _ h => h) (Or.inl ⟨by rfl, fun w' hSw => ?_⟩) hS ?_
              · exact exec_load_row 48 _ rfl w.heap.size rfl 48 _ (0, 0) _ hSw HU48.out rfl (info48 HF2.out.len _)
              try simp only [Act.put, List.getElem_toArray, List.getElem_cons_succ, List.getElem_cons_zero, List.setIfInBounds_toArray, List.set_cons_zero, List.set_cons_succ]
              refine wpAnyH_ready (rs := [2]) (by kernel_rfl) (by simp) ?_
              refine AllReadyH.cons rfl (fun K hK => ?_) AllReadyH.nil
              rw [if_pos (by rfl)]
              refine wp_store_row 31 _ _ rfl (w.heap.size + 2) (rep 1 0) rfl rfl 31 _ HY4.out.rp (by kernel_rfl) rfl (by first | exact rep_one _ _ | exact rep_one3 _ _ _ _ _) ?_
              have HX5z := Lib.hid (HY4.out.setRp (rep 1 0))
              have HOb := Lib.hid (own_far HOa.out (g := w.heap.size + 2) (by have := HL5.out; omega) (rep 1 0))
              refine hK.out _ _ HX5z.out.un (fun hS => ?_)
              clear hK K HY4 HOa
              try simp only [Act.put, List.getElem_toArray, List.getElem_cons_succ, List.getElem_cons_zero, List.setIfInBounds_toArray, List.set_cons_zero, List.set_cons_succ]
              generalize World.setRow _ _ _ = wr1 at *
              refine wpAnyH_ready (rs := [3]) (by kernel_rfl) (by simp) ?_
              refine AllReadyH.cons rfl (fun K hK => ?_) AllReadyH.nil
              rw [if_pos (by rfl)]
              refine wp_store_row 48 _ _ rfl (w.heap.size + 3) (ucells d' (.slice (some ⟨r5, 0, none⟩) n c5)) rfl rfl 48 _ HX5z.out.ru (info48 HF2.out.len _) (by rw [usize HF2.out.len]; rfl) uone ?_
              have HX6 := Lib.hid (HX5z.out.setRu (ucells d' (.slice (some ⟨r5, 0, none⟩) n c5)))
              have HOc := Lib.hid (own_far HOb.out (g := w.heap.size + 3) (by have := HL5.out; omega) (ucells d' (.slice (some ⟨r5, 0, none⟩) n c5)))
              refine hK.out _ _ HX6.out.un (fun hS => ?_)
              clear hK K HX5z HOb
              try simp only [Act.put, List.getElem_toArray, List.getElem_cons_succ, List.getElem_cons_zero, List.setIfInBounds_toArray, List.set_cons_zero, List.set_cons_succ]
              refine wpAnyH_done (by kernel_rfl) ?_ _
              go_wp2_with (fail)
              refine bodyPost_ret (results_cc rfl _ _ (w.heap.size + 2) (w.heap.size + 3) 31 48 _ _ (0, 0) (0, 0) _ _ rfl HX6.out.rp Try.underlying31 rfl (by kernel_rfl) rfl HX6.out.ru HU48.out rfl (info48 HF2.out.len _)) rfl ?_
              rw [HP.out.1, HP.out.2.1, HP.out.2.2.1, HP.out.2.2.2]
              exact ⟨none, 0, 0, some ⟨r5, 0, none⟩, c5, rfl, Rd.nil _ _, .inr (Wd.own_lower HOc.out (by have := HX5.out.bel.size; have := HLW.out; omega)), HX6.out.bel⟩
    as_aux_lemma =>
      have HP := Lib.hid (do_else (bs := bs) HGS.out e2 e3 e5 e6)
      have m2 := bF e2
      have m3 := bF e3
      have m5 := bF e5
      have m6 := bF e6
      clear e2 e3 e5 e6 hchk HGS
      go_upto_region 23 with (fail)
      clear k0
      have k19 := HX5.out.c19 HF2.out.len
      have f19 := HX5.out.f19
      have HX8 := Lib.hid (HX5.out.setSl HF2.out.len (.slice (some ⟨r5, 0, none⟩) n c5))
      have HO8 := Lib.hid (Wd.own_kept HO5.out (Wd.Only.set (p := ⟨w.heap.size, 19, none⟩) (.slice (some ⟨r5, 0, none⟩) n c5)) (fun k hk hm => by have := HL5.out; simp [Value.ownBlock] at hk; simp at hm; omega))
      go_upto_region 24 with (fail)
      clear k19 f19 HO5
      generalize World.setCell _ _ _ = w8 at *
      try simp only [Act.put]
      refine wp_region_held_drew (S := (fun W => W.heap[w.heap.size]? = some (.cells (ucells d' (.slice (some ⟨r5, 0, none⟩) n c5)) 48 (0, 0)))) (by kernel_rfl) HX8.out.un (fun hS => ?_)
      have HY4 := Lib.hid (HX8.out.below (Below.refl _ _).drew)
      have HOa := Lib.hid (World.ownsRow.drew HO8.out)
      generalize World.drew _ = wr0 at *
      refine wpAnyH_take (i := 0) (v := ?_) rfl (by kernel_rfl) (by kernel_rfl) (by kernel_rfl) (fun _ _ _ h => h) (Or.inl ⟨by rfl, ?_⟩) hS ?_
      rotate_left
      · intro w' hSw; go_simp; try rfl
      try simp only [Act.put, List.getElem_toArray, List.getElem_cons_succ, List.getElem_cons_zero, List.setIfInBounds_toArray, List.set_cons_zero, List.set_cons_succ]
      refine wpAnyH_take (i := 1) (v := .agg (ucells d' (.slice (some ⟨r5, 0, none⟩) n c5))) rfl (by kernel_rfl) (by kernel_rfl) (by kernel_rfl) (fun _ _ _ h => h) (Or.inl ⟨by rfl, fun w' hSw => ?_⟩) hS ?_
      · exact exec_load_row 48 _ rfl w.heap.size rfl 48 _ (0, 0) _ hSw HU48.out rfl (info48 HF2.out.len _)
      try simp only [Act.put, List.getElem_toArray, List.getElem_cons_succ, List.getElem_cons_zero, List.setIfInBounds_toArray, List.set_cons_zero, List.set_cons_succ]
      refine wpAnyH_ready (rs := [2]) (by kernel_rfl) (by simp) ?_
      refine AllReadyH.cons rfl (fun K hK => ?_) AllReadyH.nil
      rw [if_pos (by rfl)]
      refine wp_store_row 31 _ _ rfl (w.heap.size + 2) (rep 1 0) rfl rfl 31 _ HY4.out.rp (by kernel_rfl) rfl (by first | exact rep_one _ _ | exact rep_one3 _ _ _ _ _) ?_
      have HX5z := Lib.hid (HY4.out.setRp (rep 1 0))
      have HOb := Lib.hid (own_far HOa.out (g := w.heap.size + 2) (by have := HL5.out; omega) (rep 1 0))
      refine hK.out _ _ HX5z.out.un (fun hS => ?_)
      clear hK K HY4 HOa
      try simp only [Act.put, List.getElem_toArray, List.getElem_cons_succ, List.getElem_cons_zero, List.setIfInBounds_toArray, List.set_cons_zero, List.set_cons_succ]
      generalize World.setRow _ _ _ = wr1 at *
      refine wpAnyH_ready (rs := [3]) (by kernel_rfl) (by simp) ?_
      refine AllReadyH.cons rfl (fun K hK => ?_) AllReadyH.nil
      rw [if_pos (by rfl)]
      refine wp_store_row 48 _ _ rfl (w.heap.size + 3) (ucells d' (.slice (some ⟨r5, 0, none⟩) n c5)) rfl rfl 48 _ HX5z.out.ru (info48 HF2.out.len _) (by rw [usize HF2.out.len]; rfl) uone ?_
      have HX6 := Lib.hid (HX5z.out.setRu (ucells d' (.slice (some ⟨r5, 0, none⟩) n c5)))
      have HOc := Lib.hid (own_far HOb.out (g := w.heap.size + 3) (by have := HL5.out; omega) (ucells d' (.slice (some ⟨r5, 0, none⟩) n c5)))
      refine hK.out _ _ HX6.out.un (fun hS => ?_)
      clear hK K HX5z HOb
      try simp only [Act.put, List.getElem_toArray, List.getElem_cons_succ, List.getElem_cons_zero, List.setIfInBounds_toArray, List.set_cons_zero, List.set_cons_succ]
      refine wpAnyH_done (by kernel_rfl) ?_ _
      go_wp2_with (fail)
      refine bodyPost_ret (results_cc rfl _ _ (w.heap.size + 2) (w.heap.size + 3) 31 48 _ _ (0, 0) (0, 0) _ _ rfl HX6.out.rp Try.underlying31 rfl (by kernel_rfl) rfl HX6.out.ru HU48.out rfl (info48 HF2.out.len _)) rfl ?_
      rw [HP.out.1, HP.out.2.1, HP.out.2.2.1, HP.out.2.2.2]
      exact ⟨none, 0, 0, some ⟨r5, 0, none⟩, c5, rfl, Rd.nil _ _, .inr (Wd.own_lower HOc.out (by have := HX5.out.bel.size; have := HLW.out; omega)), HX6.out.bel⟩
end Go.Proofs.Ytjpdjhmajjbgmaa.Md
