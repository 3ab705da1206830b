/- The walks of dlm's conflict and state. -/
import Derived.Test.YtgegkebbbpapiaaTab
import Derived.Deep.LoopGhost
import Derived.Deep.QuietTactic
import Derived.BigQuiet
import Derived.StillTailTactics
import Derived.Lib.Hide
namespace Go.Proofs.Ytgegkebbbpapiaa.Dlm
open Go.RowKit
def conf (a b : Tk) : Bool := decide (a.lo ≤ b.hi) && (decide (b.lo ≤ a.hi) && (a.alone || b.alone))
theorem conflict_any (o1 l1 h1 : Int) (a1 g1 : Bool) (o2 l2 h2 : Int) (a2 g2 : Bool) (w : World) :
    Calls Try.prog 29 #[.agg #[.int .i64 o1, .int .i64 l1, .int .i64 h1, .bool a1, .bool g1], .agg #[.int .i64 o2, .int .i64 l2, .int .i64 h2, .bool a2, .bool g2]] w fun e w' =>
      e = .returned (.bool (conf ⟨o1, l1, h1, a1, g1⟩ ⟨o2, l2, h2, a2, g2⟩)) ∧ Below w.heap.size w w' := by
  go_enter Try.func29, Try.ntmps29
  go_wp2
  all_goals
    go_ret
    refine ⟨?_, (((Below.refl _ _).alloc (Nat.le_refl _) _).alloc (by simp) _)⟩
    show Ending.returned (Value.bool _) = _
    congr 2
    unfold conf
    simp only [*]
    by_cases c1 : l1 ≤ h2 <;> by_cases c2 : l2 ≤ h1 <;> simp_all <;> omega
/-- Is there a ticket ahead, not gone, in conflict with t? -/
def busy (xs : List Tk) (t : Tk) : Bool := xs.any fun x => !x.gone && conf x t
/-- 1: it waits; 2: it is granted. -/
def live (b : Bool) : Int := if b then 1 else 2
theorem busy_more {xs : List Tk} {t : Tk} {i k : Nat} (hik : i ≤ k) (h : busy (xs.take i) t = true) : busy (xs.take k) t = true := by
  unfold busy at h ⊢
  rw [List.any_eq_true] at h ⊢
  obtain ⟨x, hx, hp⟩ := h
  exact ⟨x, (List.take_subset_take_left xs hik) hx, hp⟩
def stOf (ts : List Tk) (n : Nat) : Int := match ts[n]? with
  | none => 0
  | some t => if t.gone then 3 else live (busy (ts.take n) t)
theorem state_gone (g r : Nat) (len cap k : Nat) (w : World) (hk : k < len) (_ : len ≤ 256)
    (hc : w.cell? ⟨g, 0, none⟩ = some (.slice (some ⟨r, 0, none⟩) len cap)) (h4 : w.cell? ⟨r, k * 5 + 4, none⟩ = some (.bool true)) :
    Calls Try.prog 24 #[.pointer (some ⟨g, 0, none⟩), .int .i64 (k : Int)] w fun e w' => e = .returned (.int .i64 3) ∧ w' = w := by
  go_enter Try.func24, Try.ntmps24
  go_wp2
  go_ret
  exact ⟨rfl, rfl⟩
theorem below_drewN {B : Nat} {a w : World} (h : Below B a w) (n : Nat) : Below B a (w.drewN n) := ⟨h.os, h.tape, h.output, h.size, h.block⟩
theorem bcell {B : Nat} {w w' : World} (hb : Below B w w') : ∀ b o, b < B → w'.cell? ⟨b, o, none⟩ = w.cell? ⟨b, o, none⟩ := fun b o h => hb.cell (p := ⟨b, o, none⟩) h
theorem state_live (g r : Nat) (len cap k : Nat) (w : World) (ts : List Tk) (t : Tk) (hk : k < len) (_ : len ≤ 256) (hlc : len ≤ cap) (hcc : cap ≤ maxLen) (hg : g < w.heap.size) (hr : r < w.heap.size)
    (hc : w.cell? ⟨g, 0, none⟩ = some (.slice (some ⟨r, 0, none⟩) len cap)) (hrow : Hid (Row w (g + 1) (.slice (some ⟨r, 0, none⟩) len cap) ts)) (ht : Hid (ts[k]? = some t)) (h4 : w.cell? ⟨r, k * 5 + 4, none⟩ = some (.bool false)) :
    Calls Try.prog 24 #[.pointer (some ⟨g, 0, none⟩), .int .i64 (k : Int)] w fun e w' => e = .returned (.int .i64 (live (busy (ts.take k) t))) ∧ Below w.heap.size w w' := by
  unfold maxLen at hcc
  go_enter Try.func24, Try.ntmps24
  go_wp2
  go_loopg [22] (k) (fun q v22 wr => ∃ i : Nat, i ≤ k ∧ v22 = .int .i64 i ∧ q = k - i ∧ busy (ts.take i) t = false ∧ Below w.heap.size w wr)
  case atStart => exact ⟨0, by omega, rfl, by omega, rfl, Below.refl _ _⟩
  case round =>
    obtain ⟨i, hi, rfl, hq, hbz, hb⟩ := hrel
    have hgr : g < wr.heap.size := Nat.lt_of_lt_of_le hg hb.size
    have hrr : r < wr.heap.size := Nat.lt_of_lt_of_le hr hb.size
    have hcg : wr.cell? ⟨g, 0, none⟩ = some (.slice (some ⟨r, 0, none⟩) len cap) := (bcell hb g 0 hg).trans hc
    obtain ⟨t0, t1, t2, t3, t4⟩ := Row.cells hrow.out ht.out
    rw [← bcell hb r _ hr] at t0 t1 t2 t3 t4
    by_cases hlt : i < k
    · obtain ⟨x, hx⟩ : ∃ x, ts[i]? = some x := by
        have : k < ts.length := (List.getElem?_eq_some_iff.1 ht.out).1
        exact ⟨_, List.getElem?_eq_getElem (by omega)⟩
      obtain ⟨x0, x1, x2, x3, x4⟩ := Row.cells hrow.out hx
      rw [← bcell hb r _ hr] at x0 x1 x2 x3 x4
      have hts : ts.take (i + 1) = ts.take i ++ [x] := by rw [List.take_add_one, hx]; rfl
      have hnew : busy (ts.take (i + 1)) t = (!x.gone && conf x t) := by rw [hts, busy, List.any_append, ← busy, hbz]; simp
      have HN := Lib.hid hnew
      have HX := Lib.hid hx
      have HZ := Lib.hid hbz
      have HQ := Lib.hid hq
      obtain ⟨xo, xl, xh, xa, xg⟩ := x
      obtain ⟨to, tl, th, ta, tg⟩ := t
      simp only at x0 x1 x2 x3 x4 t0 t1 t2 t3 t4
      clear hts hnew hx hbz hq hc h4
      cases xg
      · go_wp2
        refine wp_region_still_tail 12 (by kernel_rfl) (by kernel_rfl) ?_
        simp only [List.take_succ_cons, List.take_zero, List.drop_succ_cons, List.drop_zero]
        change wpStill _ _ (World.drew (World.alloc _ _)) _ _ _
        repeat still_step
        refine wpStill_nil ?_
        change wpList _ _ _ _ _ (World.drew (World.alloc _ _))
        go_wp2_with (fail)
        refine (conflict_any _ _ _ _ _ _ _ _ _ _ _).mono ?_
        rintro e w' ⟨rfl, hb2⟩
        go_wp2_with (fail)
        · have hc2 : conf ⟨xo, xl, xh, xa, false⟩ ⟨to, tl, th, ta, tg⟩ = true := by assumption
          have hbk := busy_more (k := k) (by omega) (HN.out.trans (by rw [hc2]; rfl))
          have HB := Lib.hid hbk
          clear hbk
          go_ret
          exact ⟨by rw [HB.out]; rfl, (below_drewN (hb.alloc hb.size _) 1).trans (hb2.mono (by have := hb.size; simp; omega))⟩
        · have hc2 : conf ⟨xo, xl, xh, xa, false⟩ ⟨to, tl, th, ta, tg⟩ = false := by assumption
          go_roundg (k - (i + 1))
          case measure => have := HQ.out; omega
          case rel => exact ⟨i + 1, by omega, by go_num, rfl, by rw [HN.out, hc2]; rfl, (below_drewN (hb.alloc hb.size _) 1).trans (hb2.mono (by have := hb.size; simp; omega))⟩
      · go_wp2
        go_quiet (fail)
        go_wp2
        go_roundg (k - (i + 1))
        case measure => have := HQ.out; omega
        case rel => exact ⟨i + 1, by omega, by go_num, rfl, by rw [HN.out]; rfl, below_drewN (hb.alloc hb.size _) _⟩
    · obtain rfl : i = k := by omega
      have HZ := Lib.hid hbz
      clear hbz
      go_wp2
      go_ret
      exact ⟨by rw [HZ.out]; rfl, hb⟩
/-- 'state' of a ticket that has been given. -/
theorem state_any (g : Nat) (v : Value) (k : Nat) (w : World) (ts : List Tk) (hT : Tab w g v ts) (hk : k < ts.length) (hl : ts.length ≤ 256) :
    Calls Try.prog 24 #[.pointer (some ⟨g, 0, none⟩), .int .i64 (k : Int)] w fun e w' => e = .returned (.int .i64 (stOf ts k)) ∧ Below w.heap.size w w' := by
  obtain ⟨t, ht⟩ : ∃ t, ts[k]? = some t := ⟨_, List.getElem?_eq_getElem hk⟩
  rcases Row.nil_or hT.2 with ⟨_, rfl⟩ | ⟨r, cap, rfl, hb, hr, hc, hm⟩
  · simp at hk
  · have hcell : w.cell? ⟨g, 0, none⟩ = some (.slice (some ⟨r, 0, none⟩) ts.length cap) := by rw [cell_of_heap hT.1]; rfl
    obtain ⟨_, _, _, _, h4⟩ := Row.cells hT.2 ht
    have hst : stOf ts k = if t.gone then 3 else live (busy (ts.take k) t) := by unfold stOf; rw [ht]
    rw [hst]
    cases hgone : t.gone with
    | true =>
      rw [hgone] at h4
      rw [if_pos rfl]
      exact (state_gone g r ts.length cap k w hk hl hcell h4).mono fun e w' ⟨he, hw⟩ => ⟨he, by rw [hw]; exact Below.refl _ _⟩
    | false =>
      rw [hgone] at h4
      rw [if_neg (by simp)]
      exact state_live g r ts.length cap k w ts t hk hl hc hm hT.lt hr hcell hT.2 ht h4
end Go.Proofs.Ytgegkebbbpapiaa.Dlm
