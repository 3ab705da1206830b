/- The document's lock table: rows of its tickets, its Conflict and State. -/
import Derived.Test.YtgegkebbbpapiaaShared
import Derived.Deep.DeepCutAuto
namespace Go.Proofs.Ytgegkebbbpapiaa.Dlm
open Go.RowKit
set_option linter.unusedVariables false
/-- A row of the document's tickets. -/
def RR (w : World) (base : Nat) (v : Value) (ts : List Tk) : Prop := w.ownsRow base 65 5 v ts.length (tks ts)
theorem RR.form {w : World} {base : Nat} {v : Value} {ts : List Tk} (h : RR w base v ts) : ∃ A cap, v = .slice A ts.length cap ∧ ts.length ≤ cap ∧ cap ≤ maxLen := by
  rcases h.2 with ⟨hv, h0⟩ | ⟨g, c, cur, hv, _, _, h1, h2, _⟩
  · exact ⟨none, 0, by rw [hv, h0], by omega, by unfold maxLen; omega⟩
  · exact ⟨_, c, hv, h1, h2⟩
theorem RR.addr {w : World} {base : Nat} {A : Option Addr} {n cap : Nat} {ts : List Tk} (h : RR w base (.slice A n cap) ts) (hn : 0 < ts.length) : ∃ r, A = some ⟨r, 0, none⟩ ∧ base ≤ r ∧ r < w.heap.size := by
  rcases h.2 with ⟨hv, h0⟩ | ⟨g, c, cur, hv, hb, hh, _⟩
  · omega
  · injection hv with hA; exact ⟨g, hA, hb, lt_of_heap hh⟩
theorem RR.cells {w : World} {base : Nat} {r n cap : Nat} {ts : List Tk} (h : RR w base (.slice (some ⟨r, 0, none⟩) n cap) ts) {i : Nat} {t : Tk} (hi : ts[i]? = some t) :
    w.cell? ⟨r, i * 5, none⟩ = some (.int .i64 t.owner) ∧ w.cell? ⟨r, i * 5 + 1, none⟩ = some (.int .i64 t.lo) ∧ w.cell? ⟨r, i * 5 + 2, none⟩ = some (.int .i64 t.hi) ∧
    w.cell? ⟨r, i * 5 + 3, none⟩ = some (.bool t.alone) ∧ w.cell? ⟨r, i * 5 + 4, none⟩ = some (.bool t.gone) := by
  have hl : i < ts.length := (List.getElem?_eq_some_iff.1 hi).1
  have hn : n = ts.length := by
    rcases h.2 with ⟨hv, h0⟩ | ⟨g, c, cur, hv, _⟩
    · cases hv
    · injection hv
  subst hn
  have key : ∀ j, j < 5 → w.cell? ⟨r, i * 5 + j, none⟩ = t.cells[j]? := fun j hj => by
    rw [World.ownsRow.cellAt h (i * 5 + j) (by omega), tks_at ts i t hi j hj]
  exact ⟨key 0 (by omega), key 1 (by omega), key 2 (by omega), key 3 (by omega), key 4 (by omega)⟩
theorem RR.frozen {w : World} {base : Nat} {r n cap : Nat} {ts : List Tk} (h : RR w base (.slice (some ⟨r, 0, none⟩) n cap) ts) (i : Nat) : w.frozen? ⟨r, i, none⟩ = false := by
  rcases h.2 with ⟨hv, h0⟩ | ⟨g, c, cur, hv, _, hh, _⟩
  · cases hv
  · injection hv with hA
    injection hA with hA
    injection hA with hA
    subst hA
    exact frozen_of_heap hh i
theorem RR.kept {w w' : World} {base : Nat} {v : Value} {ts : List Tk} (h : RR w base v ts) {S : List Nat} (ho : Only S w w') (hS : ∀ k, v.ownBlock = some k → k ∉ S) : RR w' base v ts := own_kept h ho hS
theorem RR.below {w w' : World} {base : Nat} {v : Value} {ts : List Tk} (h : RR w base v ts) (ho : Below w.heap.size w w') : RR w' base v ts := own_kept h (Only.of_below ho []) (by simp)
theorem RR.nil (w : World) (base : Nat) : RR w base (.slice none 0 0) [] := ⟨rfl, .inl ⟨rfl, rfl⟩⟩
theorem info65 : (Try.prog.info? 65).map (fun i => (i.zero, i.size, i.bytes)) = some (some (.agg #[.int .i64 0, .int .i64 0, .int .i64 0, .bool false, .bool false]), 5, 32) := by kernel_rfl
/-- append of a whole row to a row. -/
theorem run_copy (w : World) (base b1 : Nat) (v : Value) (n : Nat) (xs : List Value) (u : Value) (ts : List Tk) (hown : w.ownsRow base 65 5 v n xs) (hu : RR w b1 u ts) (hl : n + ts.length ≤ 4096) (hbase : base ≤ w.heap.size) :
    ∃ v' w', (Builtin.append_ #[45, 45] 45 #[v, u]).run Try.prog w = .ok v' w' ∧ w'.ownsRow base 65 5 v' (n + ts.length) (xs ++ tks ts) ∧ w.grownBy w' v.ownBlock := by
  obtain ⟨i0, hi0, hz0, hz1, hz2⟩ := info_parts info65
  rcases hu.2 with ⟨hv, h0⟩ | ⟨g, c, cur, hv, _, hh, h1, h2, _⟩
  · subst hv
    have ht : ts = [] := List.eq_nil_of_length_eq_zero h0
    subst ht
    refine ⟨v, w, run_append_owned_none w base 45 45 65 i0 5 Try.underlying45 hi0 v n xs hown, by simpa [tks] using hown, ⟨rfl, rfl, rfl, Nat.le_refl _, fun _ _ _ => rfl⟩⟩
  · subst hv
    obtain ⟨v', w', hr, h2, h3, _⟩ := run_append_own (P := Try.prog) w base 45 45 65 i0 _ 5 32 Try.underlying45 hi0 hz0 hz1 hz2 rfl (by omega) v n xs hown ⟨g, 0, none⟩ ts.length c (tks ts) (tks_length ts)
      (fun j y hy => by
        have hj : j < (tks ts).length := (List.getElem?_eq_some_iff.1 hy).1
        rw [tks_length] at hj
        have hadd : (⟨g, 0, none⟩ : Addr).add j = ⟨g, j, none⟩ := by unfold Addr.add; split <;> simp_all
        rw [hadd, World.ownsRow.cellAt hu j hj]; exact hy)
      (fun y hy => by
        unfold tks at hy
        rw [List.mem_flatMap] at hy
        obtain ⟨t, _, ht⟩ := hy
        exact cells_one t y ht) (by unfold maxLen; omega) (by omega) hbase
    exact ⟨v', w', hr, h2, h3⟩
theorem wpList_append_ran {P : Program} {w : World} {ops : Array Oper} {rest : List Oper} {o : Oper} {a : Act} {Q : Exit → Act → World → Prop} (hgd : o.guard = none) (s x : Operand) (t : TypeId)
    (ho : o.op = .call { callee := .builtin .append, args := #[s, x], argTypes := #[t, t] }) (v u : Value) (hs : a.eval s = v) (hx : a.eval x = u) (v' : Value) (w' : World)
    (hrun : (Builtin.append_ #[t, t] o.type #[v, u]).run P w = .ok v' w') (h : wpList P ops Q rest (a.put o.dst v') w') : wpList P ops Q (o :: rest) a w := by
  refine wpList_plain hgd fun K hK => ?_
  unfold Oper.wp
  simp [execOp, ho, resolve, invoke, builtin, hs, hx, hrun, Result.andThen]
  exact hK _ _ h
theorem rconf_any (o1 l1 h1 : Int) (a1 g1 : Bool) (o2 l2 h2 : Int) (a2 g2 : Bool) (w : World) :
    Calls Try.prog 28 #[.agg #[.int .i64 o1, .int .i64 l1, .int .i64 h1, .bool a1, .bool g1], .agg #[.int .i64 o2, .int .i64 l2, .int .i64 h2, .bool a2, .bool g2]] w fun e w' =>
      e = .returned (.bool (conf ⟨o1, l1, h1, a1, g1⟩ ⟨o2, l2, h2, a2, g2⟩)) ∧ Below w.heap.size w w' := by
  go_enter Try.func28, Try.ntmps28
  go_wp2
  all_goals
    go_ret
    refine ⟨?_, (((Below.refl _ _).alloc (Nat.le_refl _) _).alloc (by simp) _)⟩
    show Ending.returned (Value.bool _) = _
    congr 2
    unfold conf
    simp only [*]
    by_cases c1 : l1 ≤ h2 <;> by_cases c2 : l2 ≤ h1 <;> simp_all <;> omega
theorem rstate_bad (base : Nat) (v : Value) (ts : List Tk) (n : Int) (w : World) (h : RR w base v ts) (hn : n < 0 ∨ (ts.length : Int) ≤ n) :
    Calls Try.prog 21 #[v, .int .i64 n] w fun e w' => e = .returned (.tuple #[.int .i64 0, .int .i64 2]) ∧ w' = w := by
  obtain ⟨A, cap, rfl, _, _⟩ := RR.form h
  clear h
  by_cases h1 : n < 0
  · clear hn
    go_enter Try.func21, Try.ntmps21
    go_wp2
    go_ret2
    exact ⟨rfl, rfl⟩
  · have h2 : (ts.length : Int) ≤ n := by omega
    clear hn
    go_enter Try.func21, Try.ntmps21
    go_wp2
    go_ret2
    exact ⟨rfl, rfl⟩
theorem rstate_live (base r : Nat) (cap k : Nat) (w : World) (ts : List Tk) (t : Tk) (hk : k < ts.length) (_ : ts.length ≤ 256) (hlc : ts.length ≤ cap) (hcc : cap ≤ maxLen) (hr : r < w.heap.size)
    (hrow : Hid (RR w base (.slice (some ⟨r, 0, none⟩) ts.length cap) ts)) (ht : Hid (ts[k]? = some t)) (h4 : w.cell? ⟨r, k * 5 + 4, none⟩ = some (.bool false)) :
    Calls Try.prog 21 #[.slice (some ⟨r, 0, none⟩) ts.length cap, .int .i64 (k : Int)] w fun e w' => e = .returned (.tuple #[.int .i64 (live (busy (ts.take k) t)), .int .i64 0]) ∧ Below w.heap.size w w' := by
  unfold maxLen at hcc
  have e1 : decide ((k : Int) < 0) = false := decide_eq_false (by omega)
  have e2 : decide (ts.length ≤ k) = false := decide_eq_false (by omega)
  go_enter Try.func21, Try.ntmps21
  go_wp2
  go_loopg [6] (k) (fun q v6 wr => ∃ i : Nat, i ≤ k ∧ v6 = .int .i64 i ∧ q = k - i ∧ busy (ts.take i) t = false ∧ Below w.heap.size w wr)
  case atStart => exact ⟨0, by omega, rfl, by omega, rfl, Below.refl _ _⟩
  case round =>
    obtain ⟨i, hi, rfl, hq, hbz, hb⟩ := hrel
    have hrr : r < wr.heap.size := Nat.lt_of_lt_of_le hr hb.size
    obtain ⟨t0, t1, t2, t3, t4⟩ := RR.cells hrow.out ht.out
    rw [← bcell hb r _ hr] at t0 t1 t2 t3 t4
    by_cases hlt : i < k
    · obtain ⟨x, hx⟩ : ∃ x, ts[i]? = some x := ⟨_, List.getElem?_eq_getElem (by omega)⟩
      obtain ⟨x0, x1, x2, x3, x4⟩ := RR.cells hrow.out hx
      rw [← bcell hb r _ hr] at x0 x1 x2 x3 x4
      have hil : i < ts.length := by omega
      have hts : ts.take (i + 1) = ts.take i ++ [x] := by rw [List.take_add_one, hx]; rfl
      have hnew : busy (ts.take (i + 1)) t = (!x.gone && conf x t) := by rw [hts, busy, List.any_append, ← busy, hbz]; simp
      have HN := Lib.hid hnew
      have HZ := Lib.hid hbz
      have HQ := Lib.hid hq
      have HBB := Lib.hid hb
      obtain ⟨xo, xl, xh, xa, xg⟩ := x
      obtain ⟨tw, tl, th, ta, tg⟩ := t
      simp only at x0 x1 x2 x3 x4 t0 t1 t2 t3 t4
      clear hts hnew hx hbz hq h4
      generalize ts.length = len at *
      cases xg
      · go_upto_region 8 with (fail)
        refine wp_region_still_tail 15 (by kernel_rfl) (by kernel_rfl) ?_
        simp only [List.take_succ_cons, List.take_zero, List.drop_succ_cons, List.drop_zero]
        change wpStill _ _ (World.drew _) _ _ _
        repeat still_step
        refine wpStill_nil ?_
        change wpList _ _ _ _ _ (World.drew _)
        go_wp2_with (fail)
        refine (rconf_any _ _ _ _ _ _ _ _ _ _ _).mono ?_
        rintro e w' ⟨rfl, hb2⟩
        have HB2 := Lib.hid (hb.drew.trans (hb2.mono (by have := hb.size; simp; omega)))
        have HN2 : Hid (busy (ts.take (i + 1)) ⟨tw, tl, th, ta, tg⟩ = conf ⟨xo, xl, xh, xa, false⟩ ⟨tw, tl, th, ta, tg⟩) := Lib.hid (by rw [HN.out]; simp)
        clear hb2 hb HBB HN
        generalize conf ⟨xo, xl, xh, xa, false⟩ ⟨tw, tl, th, ta, tg⟩ = c at *
        cases c
        · go_wp2_with (fail)
          go_roundg (k - (i + 1))
          case measure => have := HQ.out; omega
          case rel => exact ⟨i + 1, by omega, by go_num, rfl, HN2.out, HB2.out⟩
        · have hbk := busy_more (k := k) (by omega) HN2.out
          have HB := Lib.hid hbk
          clear hbk
          go_wp2_with (fail)
          go_ret2
          exact ⟨by rw [HB.out]; rfl, HB2.out⟩
      · go_upto_region 8 with (fail)
        go_quiet (fail)
        go_wp2
        go_roundg (k - (i + 1))
        case measure => have := HQ.out; omega
        case rel => exact ⟨i + 1, by omega, by go_num, rfl, by rw [HN.out]; rfl, below_drewN HBB.out _⟩
    · obtain rfl : i = k := by omega
      have HZ := Lib.hid hbz
      clear hbz
      generalize ts.length = len at *
      go_wp2
      go_ret2
      exact ⟨by rw [HZ.out]; rfl, hb⟩
theorem rstate_any (base : Nat) (v : Value) (k : Nat) (w : World) (ts : List Tk) (hT : RR w base v ts) (hk : k < ts.length) (hl : ts.length ≤ 256) :
    Calls Try.prog 21 #[v, .int .i64 (k : Int)] w fun e w' => e = .returned (.tuple #[.int .i64 (stOf ts k), .int .i64 0]) ∧ Below w.heap.size w w' := by
  obtain ⟨t, ht⟩ : ∃ t, ts[k]? = some t := ⟨_, List.getElem?_eq_getElem hk⟩
  obtain ⟨A, cap, rfl, hlc, hcm⟩ := RR.form hT
  obtain ⟨r, rfl, _, hr⟩ := hT.addr (by omega)
  obtain ⟨_, _, _, _, h4⟩ := RR.cells hT ht
  have hst : stOf ts k = if t.gone then 3 else live (busy (ts.take k) t) := by unfold stOf; rw [ht]
  rw [hst]
  cases hgone : t.gone with
  | true =>
    rw [hgone] at h4
    rw [if_pos rfl]
    clear hT hst hgone ht
    unfold maxLen at hcm
    have e1 : decide ((k : Int) < 0) = false := decide_eq_false (by omega)
    have e2 : decide (ts.length ≤ k) = false := decide_eq_false (by omega)
    generalize ts.length = len at *
    go_enter Try.func21, Try.ntmps21
    go_wp2
    go_ret2
    exact ⟨rfl, Below.refl _ _⟩
  | false =>
    rw [hgone] at h4
    rw [if_neg (by simp)]
    exact rstate_live base r cap k w ts t hk hl hlc hcm hr (Lib.hid hT) (Lib.hid ht) h4
end Go.Proofs.Ytgegkebbbpapiaa.Dlm
