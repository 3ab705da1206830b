/- ModelApart, walked. -/
import Derived.Test.YtjpdjhmajjbgmaaSmr
import Derived.Test.YtjpdjhmajjbgmaaOwn
set_option linter.unusedVariables false
set_option linter.unusedSimpArgs false
namespace Go.Proofs.Ytjpdjhmajjbgmaa.Md
open Go Go.RowKit Res
open Wd (Cmd u8s balloc Rd)
theorem exec_row35 {o : Oper} {a : Act} {w : World} (x : Operand) (ho : o.op = .load 35 x) (g : Nat) (hx : a.eval x = .pointer (some ⟨g, 0, none⟩)) (c : Cmd) (dv : Value) (hg : w.heap[g]? = some (.cells (Cmd.arr c dv) 35 (0, 0))) :
    (execOp a.eval o).run Try.prog w = .ok (.value (.agg (Cmd.arr c dv))) w := exec_load_row 35 x ho g hx 35 _ (0, 0) _ hg Try.underlying35 rfl (by kernel_rfl)
theorem rd0 {w : World} {base : Nat} {v : Value} (h : w.ownsRow base 24 16 v 0 (u8s [])) (W : World) : Rd W v 0 16 (u8s []) := by
  obtain ⟨h1, A, cap, hv, hn, hc, hz, _⟩ := Rd.of_own h
  exact ⟨h1, A, cap, hv, hn, hc, hz, fun h => absurd h (by omega)⟩
def z35 : Array Value := #[.int .i64 0, .int .i64 0, .int .i64 0, .slice none 0 0, .int .u64 0, .int .i64 0, .bool false]
/-- A command, stored in a box of its own. -/
structure Co (w W : World) (b : Nat) (row : Array Value) : Prop where
  box : W.heap[b]? = some (.cells row 35 (0, 0))
  bel : Below w.heap.size w W
theorem Co.start (w : World) (row : Array Value) : Co w ((w.alloc (.cells z35 35)).setRow w.heap.size row) w.heap.size row :=
  ⟨Wd.heap_setRow (heap_alloc_new w _) _, Only.below (balloc w _) (Only.setRow _) (by simp) (by simp)⟩
theorem wdo60 {ini : Int} (hi : isIn ini) (a n : Nat) (xs : List Int) (st se : Int) (h : (if wok n a 60 then ((1 : Int), (0 : Int)) else (2, 5)) = (st, se)) (bs : List Int) :
    doS Dk.new 60 bs ini (wcmd a n xs) = (st, se) ∧ doB Dk.new 60 bs ini (wcmd a n xs) = (if wok n a 60 then splice bs (a * 16) xs else bs) ∧ doN Dk.new 60 ini (wcmd a n xs) = 0 ∧ doX Dk.new 60 bs ini (wcmd a n xs) = [] ∧ gateD Dk.new ((60 : Nat) : Int) ini (wcmd a n xs) = Dk.new := by
  obtain ⟨h1, h2, h3, h4, h5⟩ := wdo (d := Dk.new) rfl hi a n 60 xs bs
  exact ⟨h1.trans h, h2, h3, h4, h5⟩
theorem kp {p : Prop} (h : p) : Hid p := Lib.hid h
theorem rd1 {P : Program} {md : Region.Mode} {ops : Array Oper} {Q : Exit → Act → World → Prop} {S : World → Prop} {fuel : Nat} {listed : Array Bool} {a : Act} {w : World} {i : Nat} {o : Oper} (hr : Region.ready md ops listed = [i]) (ho : ops[i]? = some o)
    (h : ∀ K' : Act → World → Prop, Shut (∀ a w, S w → (S w → wpAnyH P md ops Q S fuel (listed.setIfInBounds i true) a w) → K' a w) → if Region.wanted o (yielded ops a.tmps) = true then Oper.wp P o a w K' Q else K' (a.put o.dst undef) w) : wpAnyH P md ops Q S (fuel + 1) listed a w :=
  wpAnyH_ready hr (by simp) (AllReadyH.cons ho h AllReadyH.nil)
theorem rdn {P : Program} {md : Region.Mode} {ops : Array Oper} {Q : Exit → Act → World → Prop} {S : World → Prop} (rs : List Nat) {fuel : Nat} {listed : Array Bool} {a : Act} {w : World} (hr : Region.ready md ops listed = rs) (hne : rs ≠ [])
    (h : AllReadyH P md ops Q S fuel listed a w rs) : wpAnyH P md ops Q S (fuel + 1) listed a w := wpAnyH_ready hr hne h
theorem arc {P : Program} {md : Region.Mode} {ops : Array Oper} {Q : Exit → Act → World → Prop} {S : World → Prop} {fuel : Nat} {listed : Array Bool} {a : Act} {w : World} {i : Nat} {o : Oper} {rs : List Nat} (ho : ops[i]? = some o)
    (h : ∀ K' : Act → World → Prop, Shut (∀ a w, S w → (S w → wpAnyH P md ops Q S fuel (listed.setIfInBounds i true) a w) → K' a w) → if Region.wanted o (yielded ops a.tmps) = true then Oper.wp P o a w K' Q else K' (a.put o.dst undef) w)
    (hs : AllReadyH P md ops Q S fuel listed a w rs) : AllReadyH P md ops Q S fuel listed a w (i :: rs) := AllReadyH.cons ho h hs
theorem arn {P : Program} {md : Region.Mode} {ops : Array Oper} {Q : Exit → Act → World → Prop} {S : World → Prop} {fuel : Nat} {listed : Array Bool} {a : Act} {w : World} {i : Nat} {o : Oper} (ho : ops[i]? = some o)
    (h : ∀ K' : Act → World → Prop, Shut (∀ a w, S w → (S w → wpAnyH P md ops Q S fuel (listed.setIfInBounds i true) a w) → K' a w) → if Region.wanted o (yielded ops a.tmps) = true then Oper.wp P o a w K' Q else K' (a.put o.dst undef) w) : AllReadyH P md ops Q S fuel listed a w [i] := AllReadyH.cons ho h AllReadyH.nil
def ro (st se : Int) (D : Option Addr) (E : Nat) : Array Value := #[.int .i64 st, .int .i64 se, .slice D 0 E]
theorem ro1 (st se : Int) (D : Option Addr) (E : Nat) : (ro st se D E).all (·.oneCell') = true := rep_one3 _ _ _ _ _
theorem ne_rd {w : World} {b gd : Nat} {row cs : Array Value} (h : w.heap[b]? = some (.cells row 31 (0, 0))) (k : w.heap[gd]? = some (.cells cs 68 (0, 0))) (e : b = gd) : False := by
  subst e
  have := h.symm.trans k
  injection this with this
  injection this with _ h2
  simp at h2
theorem ne_rs {w : World} {b gs : Nat} {row cs : Array Value} (h : w.heap[b]? = some (.cells row 31 (0, 0))) (k : w.heap[gs]? = some (.cells cs 24 (0, 0))) (e : b = gs) : False := by
  subst e
  have := h.symm.trans k
  injection this with this
  injection this with _ h2
  simp at h2
theorem wpList_load_row_z {P : Program} {ops : Array Oper} {rest : List Oper} {op : Oper} {a : Act} {w : World} {Q : Exit → Act → World → Prop} (hw : Region.wanted op (yielded ops a.tmps) = true) (ty : TypeId) (x : Operand) (ho : op.op = .load ty x)
    (g : Nat) (hx : a.eval x = .pointer (some ⟨g, 0, none⟩)) (t : TypeId) (cs : Array Value) (fr : Nat × Nat) (d : TypeDesc) (hg : w.heap[g]? = some (.cells cs t fr))
    (hu : P.underlying ty = some d) (hd : (match d with | .struct _ | .array _ _ => true | _ => false) = true) (hi : (P.info? ty).map (·.size) = some cs.size)
    (h : wpList P ops Q rest (a.put op.dst (.agg cs)) w) : wpList P ops Q (op :: rest) a w :=
  wpList_step fun _ hK => by
    rw [if_pos hw]
    unfold Oper.wp execOp
    simp only [ho, hx, Instr.loadAt, Instr.sureAddr, Sem.run_bind, Sem.run_pure, Result.andThen_ok, run_loadVar_row w g t ty cs fr d hg hu hd hi]
    exact hK _ _ h
/-- Two writes that lie apart may change places. -/
theorem apart_eq (n1 n2 p r : Nat) (x1 x2 : List Int) (h1 : x1.length = n1 * 16) (h2 : x2.length = n2 * 16) (hpr : p + 8 ≤ r) (i : Nat) (hi : i < 60) :
    sec (if wok n2 r 60 then splice (if wok n1 p 60 then splice (List.replicate (60 * 16) 0) (p * 16) x1 else List.replicate (60 * 16) 0) (r * 16) x2 else (if wok n1 p 60 then splice (List.replicate (60 * 16) 0) (p * 16) x1 else List.replicate (60 * 16) 0)) i = sec (if wok n1 p 60 then splice (if wok n2 r 60 then splice (List.replicate (60 * 16) 0) (r * 16) x2 else List.replicate (60 * 16) 0) (p * 16) x1 else (if wok n2 r 60 then splice (List.replicate (60 * 16) 0) (r * 16) x2 else List.replicate (60 * 16) 0)) i := by
  have hz : (List.replicate (60 * 16) (0 : Int)).length = 960 := List.length_replicate
  by_cases w1 : wok n1 p 60
  · have q1 := w1
    unfold wok at q1
    have l1 : (splice (List.replicate (60 * 16) (0 : Int)) (p * 16) x1).length = 960 := by rw [length_splice _ _ _ (by rw [hz, h1]; omega), hz]
    by_cases w2 : wok n2 r 60
    · have q2 := w2
      unfold wok at q2
      have l2 : (splice (List.replicate (60 * 16) (0 : Int)) (r * 16) x2).length = 960 := by rw [length_splice _ _ _ (by rw [hz, h2]; omega), hz]
      rw [if_pos w2, if_pos w1, if_pos w1, if_pos w2]
      rw [sec_splice _ _ _ n2 _ h2 (by rw [l1]; omega), sec_splice _ _ _ n1 _ h1 (by rw [hz]; omega), sec_splice _ _ _ n1 _ h1 (by rw [l2]; omega), sec_splice _ _ _ n2 _ h2 (by rw [hz]; omega)]
      by_cases a1 : p ≤ i ∧ i < p + n1
      · rw [if_neg (by omega), if_pos a1, if_pos a1]
      · rw [if_neg a1, if_neg a1]
    · rw [if_neg w2, if_pos w1, if_pos w1, if_neg w2]
  · rw [if_neg w1, if_neg w1]
theorem ap_do (g gd gs : Nat) (ini : Int) (c : Cmd) (bs : List Int) {st se : Int} {B : List Int → List Int}
    (h : ∀ bs, doS Dk.new 60 bs ini c = (st, se) ∧ doB Dk.new 60 bs ini c = B bs ∧ doN Dk.new 60 ini c = 0 ∧ doX Dk.new 60 bs ini c = [] ∧ gateD Dk.new ((60 : Nat) : Int) ini c = Dk.new) (dv : Value) (W : World) (hu : HasU W g gd gs Dk.new 60 bs) (hs : Wd.Secs W dv c) :
    Calls Try.prog 10 #[.pointer (some ⟨g, 0, none⟩), .int .i64 ini, c.val dv] W (DPost W g gd gs 60 (st, se) 0 [] Dk.new (B bs)) := by
  have := do_any g gd gs Dk.new 60 bs ini c dv W hu hs
  rw [(h bs).1, (h bs).2.1, (h bs).2.2.1, (h bs).2.2.2.1, (h bs).2.2.2.2] at this
  exact this
/-- A unit in the midst of a region: w: at the walk's start; W0: at the region's. -/
structure Ap (w W0 W : World) (g gd gs : Nat) (bs : List Int) : Prop where
  u : HasU W g gd gs Dk.new 60 bs
  o : Only [gd, gs] W0 W
  b : Below w.heap.size w W
  z : w.heap.size ≤ W0.heap.size
  lt : g < W0.heap.size ∧ gd < W0.heap.size ∧ gs < W0.heap.size
/-- A box for a reply. -/
structure Bp (W0 W : World) (b : Nat) : Prop where
  box : W.heap[b]? = some (.cells (rep 0 0) 31 (0, 0))
  lo : W0.heap.size ≤ b
section
variable {w W0 W W' : World} {g gd gs b : Nat} {bs bs' : List Int}
theorem Ap.bel (h : Ap w W0 W g gd gs bs) (hb : Below W.heap.size W W') : Ap w W0 W' g gd gs bs :=
  ⟨h.u.below hb, h.o.trans (Only.of_below hb []) (by simp), h.b.trans (hb.mono h.b.size), h.z, h.lt⟩
theorem Ap.do_ (h : Ap w W0 W g gd gs bs) (hg : w.heap.size ≤ gd ∧ w.heap.size ≤ gs) (hu : HasU W' g gd gs Dk.new 60 bs') (ho : Only [gd, gs] W W') : Ap w W0 W' g gd gs bs' :=
  ⟨hu, h.o.trans ho (fun _ hx => .inl hx), Only.below h.b ho h.b.size (by simp; omega), h.z, h.lt⟩
theorem Ap.row (h : Ap w W0 W g gd gs bs) (hb : W0.heap.size ≤ b) (ho : Only [b] W W') : Ap w W0 W' g gd gs bs := by
  have h1 := h.lt
  have h2 := h.z
  exact ⟨h.u.kept ho (by simp; omega) (by simp; omega) (by simp; omega), h.o.trans ho (fun x hx => by simp at hx; subst hx; exact .inr hb), Only.below h.b ho h.b.size (by simp; omega), h.z, h.lt⟩
theorem Bp.new (h : Ap w W0 W g gd gs bs) : Bp W0 (W.alloc (.cells (rep 0 0) 31)) W.heap.size := ⟨heap_alloc_new W _, h.o.size⟩
theorem Bp.lt (h : Bp W0 W b) : b < W.heap.size := lt_of_heap h.box
theorem ap_end {b2 : Nat} (h : Ap w W0 W g gd gs bs) (p1 : Bp W0 W b) (p2 : Bp W0 W b2) (hne : b ≠ b2) (r1 r2 : Array Value) :
    (W.setRow b r1).heap[b2]? = some (.cells (rep 0 0) 31 (0, 0)) ∧ Ap w W0 (W.setRow b r1) g gd gs bs ∧ Ap w W0 ((W.setRow b r1).setRow b2 r2) g gd gs bs ∧ ((W.setRow b r1).setRow b2 r2).heap[b]? = some (.cells r1 31 (0, 0)) ∧ ((W.setRow b r1).setRow b2 r2).heap[b2]? = some (.cells r2 31 (0, 0)) := by
  have o1 := Only.setRow (w := W) (g := b) r1
  have a1 := h.row p1.lo o1
  have z1 := (o1.block b2 (lt_of_heap p2.box) (by simp; omega)).trans p2.box
  have y1 := Wd.heap_setRow p1.box r1
  have o2 := Only.setRow (w := W.setRow b r1) (g := b2) r2
  exact ⟨z1, a1, a1.row p2.lo o2, (o2.block b (lt_of_heap y1) (by simp; omega)).trans y1, Wd.heap_setRow z1 r2⟩
theorem Bp.bel (h : Bp W0 W b) (hb : Below W.heap.size W W') : Bp W0 W' b := ⟨(hb.block b h.lt).trans h.box, h.lo⟩
theorem Bp.do_ (h : Bp W0 W b) (hl : g < W0.heap.size ∧ gd < W0.heap.size ∧ gs < W0.heap.size) (ho : Only [gd, gs] W W') : Bp W0 W' b := ⟨(ho.block b h.lt (by have := h.lo; simp; omega)).trans h.box, h.lo⟩
end
end Go.Proofs.Ytjpdjhmajjbgmaa.Md
