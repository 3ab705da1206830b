/- The document's lock table: Free, Leave. -/
import Derived.Test.YtgegkebbbpapiaaPl2
namespace Go.Proofs.Ytgegkebbbpapiaa.Dlm
open Go.RowKit
set_option linter.unusedVariables false
def fE (ts : List Tk) (n : Int) : Int := if 0 ≤ n ∧ n < ts.length then (if stOf ts n.toNat = 3 then 10 else 0) else 2
def fT (ts : List Tk) (n : Int) : List Tk := if 0 ≤ n ∧ n < ts.length ∧ stOf ts n.toNat ≠ 3 then gone ts n.toNat else ts
theorem RR.free {w : World} {base r n cap : Nat} {ts : List Tk} {k : Nat} {t : Tk} (h : RR w base (.slice (some ⟨r, 0, none⟩) n cap) ts) (hn : n = ts.length) (hk : ts[k]? = some t) :
    RR (w.setCell ⟨r, k * 5 + 4, none⟩ (.bool true)) base (.slice (some ⟨r, 0, none⟩) n cap) (gone ts k) := by
  subst hn
  have := World.ownsRow.stored h (k * 5 + 4) (.bool true)
  have e : gone ts k = ts.set k { t with gone := true } := by unfold gone; rw [hk]
  unfold RR
  rw [gone_length, e, ← tks_set ts k t hk]
  exact this.1
/-- A copy of a row, behind an empty one. -/
theorem copied (w : World) (base : Nat) (u : Value) (ts : List Tk) (h : RR w base u ts) (hl : ts.length ≤ 4000) :
    ∃ v' w', (Builtin.append_ #[45, 45] 45 #[.slice (some ⟨w.heap.size, 0, none⟩) 0 0, u]).run Try.prog (w.alloc (.cells #[] 65)) = .ok v' w' ∧ RR w' w.heap.size v' ts ∧ Below w.heap.size w w' := by
  have B1 : Below w.heap.size w (w.alloc (.cells #[] 65)) := (Below.refl _ _).alloc (Nat.le_refl _) _
  have O1 : (w.alloc (.cells #[] 65)).ownsRow w.heap.size 65 5 (.slice (some ⟨w.heap.size, 0, none⟩) 0 0) 0 [] := World.ownsRow_lit w #[] 0 (Nat.le_refl _) (by unfold maxLen; omega) rfl
  have R1 := run_copy (w.alloc (.cells #[] 65)) w.heap.size base _ 0 [] u ts O1 (h.below B1) (by omega) (by simp)
  rw [Nat.zero_add, List.nil_append] at R1
  obtain ⟨v1, w1, hr1, hown1, hg1⟩ := R1
  exact ⟨v1, w1, hr1, hown1, B1.grown hg1 (by simp) (fun q hq => by simp [Value.ownBlock] at hq; omega)⟩
set_option maxRecDepth 100000 in
theorem rfree_bad (base : Nat) (v : Value) (n : Int) (w : World) (ts : List Tk) (hT : RR w base v ts) (hn : n < 0 ∨ (ts.length : Int) ≤ n) :
    Calls Try.prog 19 #[v, .int .i64 n] w fun e w' => e = .returned (.tuple #[.int .i64 2, v]) ∧ w' = w := by
  have C := Lib.hid (rstate_bad base v ts n w hT hn)
  obtain ⟨A, cap, rfl, _, _⟩ := RR.form hT
  clear hT hn
  generalize ts.length = len at *
  go_enter Try.func19, Try.ntmps19
  go_wp2_with (fail)
  refine C.out.mono ?_
  rintro e w1 ⟨rfl, hw⟩
  have hw' : w1 = w := hw
  clear hw
  subst hw'
  go_wp2_with (fail)
  go_ret2
  exact ⟨rfl, rfl⟩
set_option maxRecDepth 100000 in
theorem rfree_gone (base : Nat) (v : Value) (k : Nat) (w : World) (ts : List Tk) (hT : RR w base v ts) (hk : k < ts.length) (hl : ts.length ≤ 256) (hs : stOf ts k = 3) :
    Calls Try.prog 19 #[v, .int .i64 (k : Int)] w fun e w' => e = .returned (.tuple #[.int .i64 10, v]) ∧ Below w.heap.size w w' := by
  have C0 := rstate_any base v k w ts hT hk hl
  rw [hs] at C0
  have C := Lib.hid C0
  obtain ⟨A, cap, rfl, _, _⟩ := RR.form hT
  clear hT C0 hs
  generalize ts.length = len at *
  go_enter Try.func19, Try.ntmps19
  go_wp2_with (fail)
  refine C.out.mono ?_
  rintro e w1 ⟨rfl, hb⟩
  have HB := Lib.hid hb
  clear hb
  go_wp2_with (fail)
  go_ret2
  exact ⟨rfl, HB.out⟩
set_option maxRecDepth 100000 in
theorem rfree_ok (base : Nat) (v : Value) (k : Nat) (w : World) (ts : List Tk) (hT : RR w base v ts) (hk : k < ts.length) (hl : ts.length ≤ 256) (hs : stOf ts k ≠ 3) :
    Calls Try.prog 19 #[v, .int .i64 (k : Int)] w fun e w' => ∃ v', e = .returned (.tuple #[.int .i64 0, v']) ∧ RR w' w.heap.size v' (gone ts k) ∧ Below w.heap.size w w' := by
  have C0 := rstate_any base v k w ts hT hk hl
  have hs3 : (stOf ts k == 3) = false := by rw [beq_eq_false_iff_ne]; exact hs
  obtain ⟨t, ht⟩ : ∃ t, ts[k]? = some t := ⟨_, List.getElem?_eq_getElem hk⟩
  generalize stOf ts k = s at C0 hs3
  have C := Lib.hid C0
  have HT := Lib.hid hT
  have HK := Lib.hid ht
  obtain ⟨A, cap, rfl, _, _⟩ := RR.form hT
  clear hT C0 hs ht
  go_enter Try.func19, Try.ntmps19
  go_wp2_with (fail)
  refine C.out.mono ?_
  rintro e w1 ⟨rfl, hb1⟩
  obtain ⟨v2, w2, hr2, hR2, hB2⟩ := copied w1 base _ ts (HT.out.below hb1) (by omega)
  obtain ⟨A2, cap2, rfl, hc2, hm2⟩ := RR.form hR2
  obtain ⟨r2, rfl, hb2, hl2⟩ := hR2.addr (by omega)
  have hf2 : w2.frozen? ⟨r2, k * 5 + 4, none⟩ = false := hR2.frozen _
  have h4 := (RR.cells hR2 HK.out).2.2.2.2
  have HR2 := Lib.hid hr2
  have HRR := Lib.hid hR2
  have hs1 := hb1.size
  have HB2 := Lib.hid (hb1.trans (hB2.mono hb1.size))
  clear hb1 hr2 hR2 hB2
  unfold maxLen at hm2
  go_wp2_with (first | (at_builtin; refine wpList_append_ran rfl (.tmp 22) (.tmp 23) 45 rfl _ _ rfl rfl _ w2 HR2.out ?_))
  go_ret2
  exact ⟨_, rfl, own_lower (RR.free HRR.out rfl HK.out) hs1, HB2.out.setCell (p := ⟨r2, k * 5 + 4, none⟩) (by show _ ≤ r2; omega) _⟩
theorem rfree_any (base : Nat) (v : Value) (n : Int) (w : World) (ts : List Tk) (hT : RR w base v ts) (hl : ts.length ≤ 256) (hb : base ≤ w.heap.size) :
    Calls Try.prog 19 #[v, .int .i64 n] w fun e w' => ∃ v', e = .returned (.tuple #[.int .i64 (fE ts n), v']) ∧ RR w' base v' (fT ts n) ∧ Below w.heap.size w w' := by
  by_cases h : 0 ≤ n ∧ n < ts.length
  · obtain ⟨k, rfl⟩ := Int.eq_ofNat_of_zero_le h.1
    have hk : k < ts.length := by omega
    by_cases hs : stOf ts k = 3
    · have e1 : fE ts (k : Int) = 10 := by unfold fE; rw [if_pos h, Int.toNat_natCast, if_pos hs]
      have e2 : fT ts (k : Int) = ts := by unfold fT; rw [Int.toNat_natCast]; exact if_neg (fun c => c.2.2 hs)
      rw [e1, e2]
      exact (rfree_gone base v k w ts hT hk hl hs).mono fun e w' ⟨h1, h2⟩ => ⟨v, h1, hT.below h2, h2⟩
    · have e1 : fE ts (k : Int) = 0 := by unfold fE; rw [if_pos h, Int.toNat_natCast, if_neg hs]
      have e2 : fT ts (k : Int) = gone ts k := by unfold fT; rw [Int.toNat_natCast]; exact if_pos ⟨h.1, h.2, hs⟩
      rw [e1, e2]
      exact (rfree_ok base v k w ts hT hk hl hs).mono fun e w' ⟨v', h1, h2, h3⟩ => ⟨v', h1, own_lower h2 hb, h3⟩
  · have e1 : fE ts n = 2 := if_neg h
    have e2 : fT ts n = ts := if_neg (fun c => h ⟨c.1, c.2.1⟩)
    rw [e1, e2]
    exact (rfree_bad base v n w ts hT (by omega)).mono fun e w' ⟨h1, h2⟩ => ⟨v, h1, by rw [h2]; exact hT, by rw [h2]; exact Below.refl _ _⟩
def lN (ts : List Tk) (o : Int) : Int := if 0 ≤ o ∧ o ≤ 15 then cnt o ts else 0
def lE (o : Int) : Int := if 0 ≤ o ∧ o ≤ 15 then 0 else 2
def lT (ts : List Tk) (o : Int) : List Tk := if 0 ≤ o ∧ o ≤ 15 then lvs o ts else ts
set_option maxRecDepth 100000 in
theorem rleave_bad (base : Nat) (v : Value) (o : Int) (w : World) (ts : List Tk) (hT : RR w base v ts) (h : o < 0 ∨ 15 < o) :
    Calls Try.prog 20 #[v, .int .i64 o] w fun e w' => e = .returned (.tuple #[.int .i64 0, .int .i64 2, v]) ∧ w' = w := by
  obtain ⟨A, cap, rfl, _, _⟩ := RR.form hT
  clear hT
  generalize ts.length = len at *
  by_cases h1 : o < 0
  · clear h
    go_enter Try.func20, Try.ntmps20
    go_wp2
    go_ret3
    exact ⟨rfl, rfl⟩
  · have h2 : 15 < o := by omega
    have h1' : decide (o < 0) = false := decide_eq_false h1
    clear h h1
    go_enter Try.func20, Try.ntmps20
    go_wp2
    go_ret3
    exact ⟨rfl, rfl⟩
set_option maxRecDepth 100000 in
theorem rleave_ok (base : Nat) (v : Value) (o : Int) (w : World) (ts : List Tk) (hT : RR w base v ts) (hl : ts.length ≤ 256) (h1 : 0 ≤ o) (h2 : o ≤ 15) :
    Calls Try.prog 20 #[v, .int .i64 o] w fun e w' => ∃ v', e = .returned (.tuple #[.int .i64 (cnt o ts : Int), .int .i64 0, v']) ∧ RR w' w.heap.size v' (lvs o ts) ∧ Below w.heap.size w w' := by
  obtain ⟨v2, w2, hr2, hR2, hB2⟩ := copied w base _ ts hT (by omega)
  obtain ⟨A0, cap0, rfl, _, _⟩ := RR.form hT
  obtain ⟨A, cap, rfl, hc2, hm2⟩ := RR.form hR2
  have HR2 := Lib.hid hr2
  have HT := Lib.hid hR2
  have HB2 := Lib.hid hB2
  clear hT hr2 hR2 hB2
  have h1' : decide (o < 0) = false := decide_eq_false (by omega)
  have h2' : decide (15 < o) = false := decide_eq_false (by omega)
  unfold maxLen at hm2
  clear h1 h2
  go_enter Try.func20, Try.ntmps20
  go_wp2_with (first | (at_builtin; refine wpList_append_ran rfl (.tmp 17) (.tmp 18) 45 rfl _ _ rfl rfl _ w2 HR2.out ?_))
  go_loopg [8, 9] (ts.length) (fun q v8 v9 wr => ∃ i : Nat, i ≤ ts.length ∧ v8 = .int .i64 (cnt o (ts.take i) : Int) ∧ v9 = .int .i64 i ∧ q = ts.length - i ∧ RR wr w.heap.size (.slice A ts.length cap) (lvTo o ts i) ∧ Below w.heap.size w wr)
  case atStart => exact ⟨0, by omega, rfl, rfl, rfl, HT.out, HB2.out⟩
  case round =>
    obtain ⟨i, hi, rfl, rfl, hq, hTr, hO⟩ := hrel
    have HTr := Lib.hid hTr
    have HOr := Lib.hid hO
    have HQ := Lib.hid hq
    clear hTr hO hq
    by_cases hlt : i < ts.length
    · obtain ⟨t, ht⟩ : ∃ t, ts[i]? = some t := ⟨_, List.getElem?_eq_getElem hlt⟩
      have hcs := cnt_succ o ts i t ht
      have hle : cnt o (ts.take i) ≤ i := by unfold cnt; exact Nat.le_trans List.countP_le_length (List.length_take_le _ _)
      obtain ⟨r, rfl, hbr, hrw⟩ : ∃ r, A = some ⟨r, 0, none⟩ ∧ w.heap.size ≤ r ∧ r < wr.heap.size := by
        have := HTr.out.addr (by rw [lvTo_length]; omega)
        exact this
      obtain ⟨x0, x1, x2, x3, x4⟩ := RR.cells HTr.out ((lvTo_at o ts i hlt).trans ht)
      have hf : wr.frozen? ⟨r, i * 5 + 4, none⟩ = false := HTr.out.frozen _
      have HC := Lib.hid hcs
      have HX := Lib.hid ht
      have HRL := Lib.hid hbr
      clear hcs ht hbr
      obtain ⟨tw, tl, th, ta, tg⟩ := t
      simp only at x0 x1 x2 x3 x4
      generalize cnt o (ts.take i) = c at *
      go_wp2_with (fail)
      · have e1 : tw = o := by assumption
        have e2 : (!tg) = true := by assumption
        have eh : hit o ⟨tw, tl, th, ta, tg⟩ = true := by unfold hit; simp only [e1, decide_true, e2, Bool.and_self]
        go_roundg (ts.length - (i + 1))
        case measure => have := HQ.out; omega
        case rel => exact ⟨i + 1, by omega, by rw [HC.out, if_pos eh]; go_num, by go_num, rfl, by rw [← lvTo_hit o ts i _ HX.out eh]; exact RR.free HTr.out (lvTo_length o ts i).symm ((lvTo_at o ts i hlt).trans HX.out), HOr.out.setCell (p := ⟨r, i * 5 + 4, none⟩) (by show _ ≤ r; exact HRL.out) _⟩
      · have e2 : (!tg) = false := by assumption
        have eh : hit o ⟨tw, tl, th, ta, tg⟩ = false := by unfold hit; simp only [e2, Bool.and_false]
        go_roundg (ts.length - (i + 1))
        case measure => have := HQ.out; omega
        case rel => exact ⟨i + 1, by omega, by rw [HC.out, if_neg (by simp [eh])]; go_num, by go_num, rfl, by rw [← lvTo_miss o ts i _ HX.out eh]; exact HTr.out, HOr.out⟩
      · have e1 : ¬ tw = o := by assumption
        have eh : hit o ⟨tw, tl, th, ta, tg⟩ = false := by unfold hit; simp only [e1, decide_false, Bool.false_and]
        go_roundg (ts.length - (i + 1))
        case measure => have := HQ.out; omega
        case rel => exact ⟨i + 1, by omega, by rw [HC.out, if_neg (by simp [eh])]; go_num, by go_num, rfl, by rw [← lvTo_miss o ts i _ HX.out eh]; exact HTr.out, HOr.out⟩
    · obtain rfl : i = ts.length := by omega
      have e1 : ts.take ts.length = ts := List.take_length
      have e2 : lvTo o ts ts.length = lvs o ts := by unfold lvTo; rw [List.take_length, List.drop_length, List.append_nil]
      have HE1 := Lib.hid e1
      have HE2 := Lib.hid e2
      clear e1 e2
      go_wp2_with (fail)
      go_ret3
      exact ⟨_, by rw [HE1.out]; rfl, by rw [← HE2.out]; exact HTr.out, HOr.out⟩
theorem rleave_any (base : Nat) (v : Value) (o : Int) (w : World) (ts : List Tk) (hT : RR w base v ts) (hl : ts.length ≤ 256) (hb : base ≤ w.heap.size) :
    Calls Try.prog 20 #[v, .int .i64 o] w fun e w' => ∃ v', e = .returned (.tuple #[.int .i64 (lN ts o), .int .i64 (lE o), v']) ∧ RR w' base v' (lT ts o) ∧ Below w.heap.size w w' := by
  by_cases h : 0 ≤ o ∧ o ≤ 15
  · have e1 : lN ts o = cnt o ts := if_pos h
    have e2 : lE o = 0 := if_pos h
    have e3 : lT ts o = lvs o ts := if_pos h
    rw [e1, e2, e3]
    exact (rleave_ok base v o w ts hT hl h.1 h.2).mono fun e w' ⟨v', h1, h2, h3⟩ => ⟨v', h1, own_lower h2 hb, h3⟩
  · have e1 : lN ts o = 0 := if_neg h
    have e2 : lE o = 2 := if_neg h
    have e3 : lT ts o = ts := if_neg h
    rw [e1, e2, e3]
    exact (rleave_bad base v o w ts hT (by omega)).mono fun e w' ⟨h1, h2⟩ => ⟨v, h1, by rw [h2]; exact hT, by rw [h2]; exact Below.refl _ _⟩
end Go.Proofs.Ytgegkebbbpapiaa.Dlm
