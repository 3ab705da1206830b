/- What holds at the head of ModelPlays's loop. -/
import Derived.Test.YtjpdjhmajjbgmaaPlm
import Derived.Test.YtjpdjhmajjbgmaaOsc
import Derived.Test.YtjpdjhmajjbgmaaSmr
import Derived.Test.YtjpdjhmajjbgmaaAp0
set_option linter.unusedVariables false
set_option linter.unusedSimpArgs false
namespace Go.Proofs.Ytjpdjhmajjbgmaa.Md
open Go Go.RowKit Res
open Wd (Cmd u8s balloc Rd Opm InScript)
/-- The program's unit (d, bs) and the document's (dr, br) in memory. -/
structure Pl (w W : World) (g gd gs b7 : Nat) (n : Nat) (d dr : Dk) (bs br : List Int) (rs cs : Nat) : Prop where
  u : HasU W g gd gs d n bs
  bx : W.heap[b7]? = some (.cells (ucells dr (.slice (some ⟨rs, 0, none⟩) n cs)) 48 (0, 0))
  ow : W.ownsRow w.heap.size 24 16 (.slice (some ⟨rs, 0, none⟩) n cs) n (u8s br)
  ne : rs ≠ gs
  bel : Below w.heap.size w W
  gl : w.heap.size ≤ g ∧ w.heap.size ≤ gd ∧ w.heap.size ≤ gs ∧ w.heap.size ≤ b7
  len : dr.keys.length = 16
theorem blk_ne {w : World} {a b : Nat} {r s : Array Value} {t u : TypeId} (h : w.heap[a]? = some (.cells r t (0, 0))) (k : w.heap[b]? = some (.cells s u (0, 0))) (ht : t ≠ u) : a ≠ b := by
  rintro rfl
  have := h.symm.trans k
  injection this with this
  injection this with _ h2
  exact ht h2
theorem own_heap {w : World} {base r cp n : Nat} {e : TypeId} {s : Nat} {xs : List Value} (h : w.ownsRow base e s (.slice (some ⟨r, 0, none⟩) n cp) n xs) : ∃ cur, w.heap[r]? = some (.cells cur e (0, 0)) := by
  rcases h.2 with ⟨hv, _⟩ | ⟨g, cap, cur, hv, hb, hh, _⟩
  · cases hv
  · injection hv with e1
    injection e1 with e1
    injection e1 with e1
    subst e1
    exact ⟨cur, hh⟩
section
variable {w W W' : World} {g gd gs b7 n : Nat} {d dr : Dk} {bs br : List Int} {rs cs : Nat}
/-- Five blocks, all apart. -/
theorem Pl.apart (h : Pl w W g gd gs b7 n d dr bs br rs cs) : (b7 ≠ g ∧ b7 ≠ gd ∧ b7 ≠ gs) ∧ (rs ≠ g ∧ rs ≠ gd ∧ rs ≠ gs ∧ rs ≠ b7) := by
  obtain ⟨cur, hc⟩ := own_heap h.ow
  exact ⟨⟨blk_ne h.bx h.u.u (by decide), blk_ne h.bx h.u.d.heap (by decide), blk_ne h.bx h.u.s (by decide)⟩, blk_ne hc h.u.u (by decide), blk_ne hc h.u.d.heap (by decide), h.ne, blk_ne hc h.bx (by decide)⟩
theorem Pl.lt (h : Pl w W g gd gs b7 n d dr bs br rs cs) : g < W.heap.size ∧ gd < W.heap.size ∧ gs < W.heap.size ∧ b7 < W.heap.size ∧ rs < W.heap.size :=
  ⟨lt_of_heap h.u.u, h.u.d.lt, lt_of_heap h.u.s, lt_of_heap h.bx, (h.ow.lt rs rfl).2⟩
theorem Pl.rlo (h : Pl w W g gd gs b7 n d dr bs br rs cs) : w.heap.size ≤ rs := (h.ow.lt rs rfl).1
theorem Pl.below (h : Pl w W g gd gs b7 n d dr bs br rs cs) (hb : Below W.heap.size W W') : Pl w W' g gd gs b7 n d dr bs br rs cs :=
  ⟨h.u.below hb, (hb.block _ (lt_of_heap h.bx)).trans h.bx, Wd.own_below h.ow hb, h.ne, h.bel.trans (hb.mono h.bel.size), h.gl, h.len⟩
/-- Blocks that are none of the five. -/
theorem Pl.far (h : Pl w W g gd gs b7 n d dr bs br rs cs) {S : List Nat} (ho : Only S W W') (hS : ∀ b ∈ S, w.heap.size ≤ b ∧ b ≠ g ∧ b ≠ gd ∧ b ≠ gs ∧ b ≠ b7 ∧ b ≠ rs) : Pl w W' g gd gs b7 n d dr bs br rs cs :=
  ⟨h.u.kept ho (fun hm => (hS _ hm).2.1 rfl) (fun hm => (hS _ hm).2.2.1 rfl) (fun hm => (hS _ hm).2.2.2.1 rfl), (ho.block _ (lt_of_heap h.bx) (fun hm => (hS _ hm).2.2.2.2.1 rfl)).trans h.bx, Wd.own_kept h.ow ⟨ho.os, ho.tape, ho.output, ho.size, ho.block⟩ (fun k hk hm => by simp [Value.ownBlock] at hk; subst hk; exact (hS _ hm).2.2.2.2.2 rfl), h.ne, Only.below h.bel ho h.bel.size (fun x hx => (hS x hx).1), h.gl, h.len⟩
/-- The program's unit turns. -/
theorem Pl.unit (h : Pl w W g gd gs b7 n d dr bs br rs cs) {d' : Dk} {bs' : List Int} (hu : HasU W' g gd gs d' n bs') (ho : Only [gd, gs] W W') : Pl w W' g gd gs b7 n d' dr bs' br rs cs := by
  have ha := h.apart
  have hg := h.gl
  exact ⟨hu, (ho.block _ (lt_of_heap h.bx) (by simp; omega)).trans h.bx, Wd.own_kept h.ow ⟨ho.os, ho.tape, ho.output, ho.size, ho.block⟩ (fun k hk hm => by simp [Value.ownBlock] at hk; subst hk; simp at hm; omega), h.ne, Only.below h.bel ho h.bel.size (by simp; omega), h.gl, h.len⟩
/-- The document's unit turns. -/
theorem Pl.box (h : Pl w W g gd gs b7 n d dr bs br rs cs) {dr' : Dk} {br' : List Int} {rs' cs' : Nat} (hl : dr'.keys.length = 16) (how : W.ownsRow w.heap.size 24 16 (.slice (some ⟨rs', 0, none⟩) n cs') n (u8s br')) (hne : rs' ≠ gs) :
    Pl w (W.setRow b7 (ucells dr' (.slice (some ⟨rs', 0, none⟩) n cs'))) g gd gs b7 n d dr' bs br' rs' cs' := by
  have ha := h.apart
  have hg := h.gl
  have ho := Only.setRow (w := W) (g := b7) (ucells dr' (.slice (some ⟨rs', 0, none⟩) n cs'))
  obtain ⟨cur, hc⟩ := own_heap how
  have h1 : rs' ≠ b7 := blk_ne hc h.bx (by decide)
  exact ⟨h.u.kept ho (by simp; omega) (by simp; omega) (by simp; omega), Wd.heap_setRow h.bx _, own_far how h1 _, hne, Only.below h.bel ho h.bel.size (by simp; omega), h.gl, hl⟩
theorem Pl.rd (h : Pl w W g gd gs b7 n d dr bs br rs cs) : Rd W (.slice (some ⟨rs, 0, none⟩) n cs) n 16 (u8s br) := Rd.of_own h.ow
theorem Pl.dk (h : Pl w W g gd gs b7 n d dr bs br rs cs) : W.rangeAt b7 0 dr.vals := by
  intro j u hj
  rw [Nat.zero_add, cell_of_heap h.bx, ucells, List.getElem?_toArray, List.getElem?_append_left (List.getElem?_eq_some_iff.1 hj).1]
  exact hj
theorem Pl.there (h : Pl w W g gd gs b7 n d dr bs br rs cs) : W.there b7 0 19 := by
  intro j hj
  rw [cell_of_heap h.bx, frozen_of_heap h.bx]
  refine ⟨?_, rfl⟩
  rw [Array.getElem?_eq_getElem (by rw [usize h.len]; omega)]; rfl
theorem Pl.c19 (h : Pl w W g gd gs b7 n d dr bs br rs cs) : W.cell? ⟨b7, 19, none⟩ = some (.slice (some ⟨rs, 0, none⟩) n cs) := by
  rw [cell_of_heap h.bx, ucells, List.getElem?_toArray, List.getElem?_append_right (by rw [ulen h.len]; omega), ulen h.len]; rfl
theorem Pl.desk (h : Pl w W g gd gs b7 n d dr bs br rs cs) {dr' : Dk} (hl' : dr'.keys.length = 16) : W.setCells b7 0 dr'.vals = W.setRow b7 (ucells dr' (.slice (some ⟨rs, 0, none⟩) n cs)) := by
  have h1 := set_splice (g := b7) (o := 0) (cur := dr.vals ++ [.slice (some ⟨rs, 0, none⟩) n cs]) (xs := dr'.vals) (t := 48) h.bx (by rw [List.length_append, ulen h.len, ulen hl']; simp) (fun x hx => by
    have := one41 dr'
    rw [Array.all_eq_true_iff_forall_mem] at this
    exact this x (by unfold Dk.cells; rwa [List.mem_toArray]))
  rw [usplice h.len hl'] at h1
  exact h1
end
theorem fine_gate {d : Dk} (hf : d.fine) (cap ini : Int) (c : Cmd) : (gateD d cap ini c).fine := by
  unfold gateD
  split; exact hf
  split; exact fine_reg hf _ _ _
  split; exact fine_res hf _ _
  split; exact fine_rel hf _
  split; exact fine_clr hf _
  split; exact fine_pre hf _ _
  exact hf
/-- A box: a row of a type, apart from what else turns. -/
theorem script_at {w : World} {A : Option Addr} {os : List Opm} (h : InScript w A os) {i : Nat} {o : Opm} (ho : os[i]? = some o) : ∃ b off, A = some ⟨b, off, none⟩ ∧ b < w.heap.size ∧
    w.rangeAt b (off + i * 9) [.bool o.lose, .int .i64 o.ini, .int .i64 o.c.kind, .int .i64 o.c.lba, .int .i64 o.c.count, o.dv, .int .u64 o.c.key, .int .i64 o.c.res, .bool o.c.keep] ∧ Wd.Secs w o.dv o.c ∧ o.c.n * 16 ≤ 140737488355328 := by
  rcases h with h | ⟨b, off, hA, hl, h⟩
  · rw [h] at ho; simp at ho
  · exact ⟨b, off, hA, hl, h i o ho⟩
end Go.Proofs.Ytjpdjhmajjbgmaa.Md
