/- The document's lock table: Those; SameInts; and the program's functions over any arguments, by the same plain functions. -/
import Derived.Test.YtgegkebbbpapiaaPl3
namespace Go.Proofs.Ytgegkebbbpapiaa.Dlm
open Go.RowKit
set_option linter.unusedVariables false
theorem ints_at3 {w : World} {base r n cap : Nat} {L : List Nat} (h : w.ownsRow base 3 1 (.slice (some ⟨r, 0, none⟩) n cap) L.length (ints L)) {k x : Nat} (hk : L[k]? = some x) : w.cell? ⟨r, k, none⟩ = some (.int .i64 (x : Int)) := by
  have hl : k < L.length := (List.getElem?_eq_some_iff.1 hk).1
  have hn : n = L.length := by
    rcases h.2 with ⟨hv, h0⟩ | ⟨g, c, cur, hv, _⟩
    · cases hv
    · injection hv
  subst hn
  rw [h.cellAt k (by omega), ints, List.getElem?_map, hk]
  rfl
set_option maxRecDepth 100000 in
theorem rthose_any (base : Nat) (v : Value) (s : Int) (w : World) (ts : List Tk) (hT : RR w base v ts) (hl : ts.length ≤ 256) :
    Calls Try.prog 23 #[v, .int .i64 s] w fun e w' => ∃ u, e = .returned u ∧ w'.ownsRow w.heap.size 3 1 u (those ts s ts.length).length (ints (those ts s ts.length)) ∧ Below w.heap.size w w' := by
  obtain ⟨A, cap, rfl, hlc, hcm⟩ := RR.form hT
  obtain ⟨i0, hi0, hz0, hz1, hz2⟩ := info_parts info3
  have HT := Lib.hid hT
  clear hT
  unfold maxLen at hcm
  have O1 : (w.alloc (.cells #[] 3)).ownsRow w.heap.size 3 1 (.slice (some ⟨w.heap.size, 0, none⟩) 0 0) 0 [] := World.ownsRow_lit w #[] 0 (Nat.le_refl _) (by unfold maxLen; omega) rfl
  have HO1 := Lib.hid O1
  clear O1
  go_enter Try.func23, Try.ntmps23
  go_wp2_with (fail)
  go_loopg [5, 6] (ts.length) (fun q v5 v6 wr => ∃ k : Nat, k ≤ ts.length ∧ v6 = .int .i64 k ∧ q = ts.length - k ∧ wr.ownsRow w.heap.size 3 1 v5 (those ts s k).length (ints (those ts s k)) ∧ Below w.heap.size w wr)
  case atStart => exact ⟨0, by omega, rfl, rfl, by simpa [those, ints] using HO1.out, (Below.refl _ _).alloc (Nat.le_refl _) _⟩
  case round =>
    obtain ⟨k, hk, rfl, hq, hown, hb⟩ := hrel
    have HQ := Lib.hid hq
    have HO := Lib.hid hown
    have HB := Lib.hid hb
    have hbs := hb.size
    have HTr := Lib.hid (HT.out.below hb)
    clear hq hown hb
    by_cases hlt : k < ts.length
    · have C := Lib.hid (rstate_any base _ k wr ts HTr.out hlt hl)
      have hs := those_succ ts s k
      have hle := those_le ts s k
      have HS := Lib.hid hs
      clear hs
      generalize hst : (stOf ts k == s) = b at *
      have HST := Lib.hid hst
      clear hst
      go_wp2_with (fail)
      refine C.out.mono ?_
      rintro e w1 ⟨rfl, hb1⟩
      have hs1 := hb1.size
      have HB1 := Lib.hid hb1
      have HO1 := Lib.hid (own_kept HO.out (Only.of_below hb1 []) (by simp))
      clear hb1
      generalize those ts s k = L at *
      have hst := HST.out
      generalize stOf ts k = sk at *
      cases b
      · go_wp2_with (fail)
        go_roundg (ts.length - (k + 1))
        case measure => have := HQ.out; omega
        case rel => exact ⟨k + 1, by omega, by go_num, rfl, by rw [HS.out]; simpa using HO1.out, HB.out.trans (HB1.out.mono hbs)⟩
      · go_wp2_with (at_builtin; refine wpList_append_own_at _ rfl (.tmp 25) (.tmp 27) 35 rfl w.heap.size 3 i0 _ 1 8 Try.underlying35 hi0 hz0 hz1 hz2 rfl (by omega) _ L.length (ints L) rfl (HO1.out.alloc _) ⟨w1.heap.size, 0, none⟩ 1 1 [.int .i64 (k : Int)] rfl rfl (cells_new w1 [.int .i64 (k : Int)] 3) (by intro u hu; simp at hu; subst hu; rfl) (by unfold maxLen; omega) (by omega) (by simp; omega) ?_; intro v' w2 hown2 hg2 _ hat; have HO2 := Lib.hid hown2; have HG2 := Lib.hid hg2; clear hown2 hg2 hat)
        go_roundg (ts.length - (k + 1))
        case measure => have := HQ.out; omega
        case rel =>
          refine ⟨k + 1, by omega, by go_num, rfl, ?_, ?_⟩
          · rw [HS.out]; simpa [ints] using HO2.out
          · exact ((HB.out.trans (HB1.out.mono hbs)).alloc (by omega) _).grown HG2.out (by simp; omega) (fun q hq => (HO1.out.lt q hq).1)
    · obtain rfl : k = ts.length := by omega
      go_wp2_with (fail)
      go_ret
      exact ⟨_, rfl, HO.out, HB.out⟩
set_option maxRecDepth 100000 in
theorem same_ints (b1 b2 : Nat) (v1 v2 : Value) (L : List Nat) (w : World) (h1 : w.ownsRow b1 3 1 v1 L.length (ints L)) (h2 : w.ownsRow b2 3 1 v2 L.length (ints L)) (hl : L.length ≤ 256) :
    Calls Try.prog 22 #[v1, v2] w fun e w' => e = .returned (.bool true) ∧ Below w.heap.size w w' := by
  obtain ⟨A1, c1, rfl, hc1⟩ := own_form h1
  obtain ⟨A2, c2, rfl, hc2⟩ := own_form h2
  have H1 := Lib.hid h1
  have H2 := Lib.hid h2
  clear h1 h2
  go_enter Try.func22, Try.ntmps22
  go_wp2_with (fail)
  go_loopg [5] (L.length) (fun q v5 wr => ∃ k : Nat, k ≤ L.length ∧ v5 = .int .i64 k ∧ q = L.length - k ∧ Below w.heap.size w wr)
  case atStart => exact ⟨0, by omega, rfl, rfl, Below.refl _ _⟩
  case round =>
    obtain ⟨k, hk, rfl, hq, hb⟩ := hrel
    have HQ := Lib.hid hq
    have HB := Lib.hid hb
    clear hq hb
    by_cases hlt : k < L.length
    · obtain ⟨x, hx⟩ : ∃ x, L[k]? = some x := ⟨_, List.getElem?_eq_getElem hlt⟩
      obtain ⟨r1, rfl⟩ : ∃ r, A1 = some ⟨r, 0, none⟩ := by
        rcases H1.out.2 with ⟨_, h0⟩ | ⟨r, c, cur, hv, _⟩
        · omega
        · injection hv with hA; exact ⟨r, hA⟩
      obtain ⟨r2, rfl⟩ : ∃ r, A2 = some ⟨r, 0, none⟩ := by
        rcases H2.out.2 with ⟨_, h0⟩ | ⟨r, c, cur, hv, _⟩
        · omega
        · injection hv with hA; exact ⟨r, hA⟩
      have e1 := (bcell HB.out r1 k (H1.out.lt r1 rfl).2).trans (ints_at3 H1.out hx)
      have e2 := (bcell HB.out r2 k (H2.out.lt r2 rfl).2).trans (ints_at3 H2.out hx)
      clear hx
      have hne : ((x : Int) != (x : Int)) = false := bne_self_eq_false _
      go_upto_region 6 with (fail)
      go_quiet (fail)
      go_wp2_with (fail)
      go_roundg (L.length - (k + 1))
      case measure => have := HQ.out; omega
      case rel => exact ⟨k + 1, by omega, by go_num, rfl, below_drewN HB.out _⟩
    · obtain rfl : k = L.length := by omega
      go_wp2_with (fail)
      go_ret
      exact ⟨rfl, HB.out⟩
/-- What a walk leaves of a table: it holds us now; only its own blocks have turned. -/
structure Turned (w w' : World) (g : Nat) (v v' : Value) (us : List Tk) : Prop where
  tab : Tab w' g v' us
  only : Only (g :: v.ownBlock.toList) w w'
  blk : v'.ownBlock = v.ownBlock ∨ ∃ k, v'.ownBlock = some k ∧ w.heap.size ≤ k
theorem Turned.same {w w' : World} {g : Nat} {v : Value} {ts : List Tk} (h : Tab w g v ts) (hb : Below w.heap.size w w') : Turned w w' g v v ts := ⟨h.below hb, Only.of_below hb _, .inl rfl⟩
theorem ask_any (g : Nat) (v : Value) (o l h : Int) (al : Bool) (w : World) (ts : List Tk) (hT : Tab w g v ts) :
    Calls Try.prog 17 #[.pointer (some ⟨g, 0, none⟩), .int .i64 o, .int .i64 l, .int .i64 h, .bool al] w fun e w' => ∃ v', e = .returned (.tuple #[.int .i64 (aN ts o l h), .int .i64 (aE ts o l h)]) ∧ Turned w w' g v v' (aT ts o l h al) := by
  by_cases hok : askOk o l h
  · by_cases hl : ts.length < 256
    · have hc : askOk o l h ∧ ts.length < 256 := ⟨hok, hl⟩
      have e1 : aN ts o l h = ts.length := if_pos hc
      have e2 : aE ts o l h = 0 := by unfold aE; rw [if_pos hc.1, if_pos hc.2]
      have e3 : aT ts o l h al = ts ++ [⟨o, l, h, al, false⟩] := if_pos hc
      rw [e1, e2, e3]
      exact (Ask_ok g v o l h al w ts hT hl hok.1 hok.2.1 hok.2.2.1 hok.2.2.2).mono fun e w' ⟨h1, v', h2, h3, h4⟩ => ⟨v', h1, h2, h3, h4⟩
    · have hc : ¬ (askOk o l h ∧ ts.length < 256) := fun c => hl c.2
      have e1 : aN ts o l h = 0 := if_neg hc
      have e2 : aE ts o l h = 14 := by unfold aE; rw [if_pos hok, if_neg hl]
      have e3 : aT ts o l h al = ts := if_neg hc
      rw [e1, e2, e3]
      exact (Ask_full g v o l h al w ts hT (by omega) hok.1 hok.2.1 hok.2.2.1 hok.2.2.2).mono fun e w' ⟨h1, h2⟩ => ⟨v, h1, Turned.same hT (by rw [h2]; exact Below.refl _ _)⟩
  · have hc : ¬ (askOk o l h ∧ ts.length < 256) := fun c => hok c.1
    have e1 : aN ts o l h = 0 := if_neg hc
    have e2 : aE ts o l h = 2 := if_neg hok
    have e3 : aT ts o l h al = ts := if_neg hc
    rw [e1, e2, e3]
    exact (Ask_bad g o l h al w (by unfold askOk at hok; omega)).mono fun e w' ⟨h1, h2⟩ => ⟨v, h1, Turned.same hT (by rw [h2]; exact Below.refl _ _)⟩
theorem free_any (g : Nat) (v : Value) (n : Int) (w : World) (ts : List Tk) (hT : Tab w g v ts) (hl : ts.length ≤ 256) :
    Calls Try.prog 14 #[.pointer (some ⟨g, 0, none⟩), .int .i64 n] w fun e w' => e = .returned (.int .i64 (fE ts n)) ∧ Turned w w' g v v (fT ts n) := by
  by_cases h : 0 ≤ n ∧ n < ts.length
  · obtain ⟨k, rfl⟩ := Int.eq_ofNat_of_zero_le h.1
    have hk : k < ts.length := by omega
    by_cases hs : stOf ts k = 3
    · have e1 : fE ts (k : Int) = 10 := by unfold fE; rw [if_pos h, Int.toNat_natCast, if_pos hs]
      have e2 : fT ts (k : Int) = ts := by unfold fT; rw [Int.toNat_natCast]; exact if_neg (fun c => c.2.2 hs)
      rw [e1, e2]
      exact (Free_gone g v k w ts hT hk hl hs).mono fun e w' ⟨h1, h2⟩ => ⟨h1, Turned.same hT h2⟩
    · have e1 : fE ts (k : Int) = 0 := by unfold fE; rw [if_pos h, Int.toNat_natCast, if_neg hs]
      have e2 : fT ts (k : Int) = gone ts k := by unfold fT; rw [Int.toNat_natCast]; exact if_pos ⟨h.1, h.2, hs⟩
      rw [e1, e2]
      exact (Free_ok g v k w ts hT hk hl hs).mono fun e w' ⟨h1, h2, h3⟩ => ⟨h1, h2, h3.mono (fun x hx => List.mem_cons_of_mem _ hx), .inl rfl⟩
  · have e1 : fE ts n = 2 := if_neg h
    have e2 : fT ts n = ts := if_neg (fun c => h ⟨c.1, c.2.1⟩)
    rw [e1, e2]
    exact (Free_bad g v n w ts hT (by omega)).mono fun e w' ⟨h1, h2⟩ => ⟨h1, Turned.same hT (by rw [h2]; exact Below.refl _ _)⟩
theorem leave_any (g : Nat) (v : Value) (o : Int) (w : World) (ts : List Tk) (hT : Tab w g v ts) (hl : ts.length ≤ 256) :
    Calls Try.prog 11 #[.pointer (some ⟨g, 0, none⟩), .int .i64 o] w fun e w' => e = .returned (.tuple #[.int .i64 (lN ts o), .int .i64 (lE o)]) ∧ Turned w w' g v v (lT ts o) := by
  by_cases h : 0 ≤ o ∧ o ≤ 15
  · have e1 : lN ts o = cnt o ts := if_pos h
    have e2 : lE o = 0 := if_pos h
    have e3 : lT ts o = lvs o ts := if_pos h
    rw [e1, e2, e3]
    exact (Leave_ok g v o w ts hT hl h.1 h.2).mono fun e w' ⟨h1, h2, h3⟩ => ⟨h1, h2, h3.mono (fun x hx => List.mem_cons_of_mem _ hx), .inl rfl⟩
  · have e1 : lN ts o = 0 := if_neg h
    have e2 : lE o = 2 := if_neg h
    have e3 : lT ts o = ts := if_neg h
    rw [e1, e2, e3]
    exact (Leave_bad g o w (by omega)).mono fun e w' ⟨h1, h2⟩ => ⟨h1, Turned.same hT (by rw [h2]; exact Below.refl _ _)⟩
def sN (ts : List Tk) (n : Int) : Int := if 0 ≤ n ∧ n < ts.length then stOf ts n.toNat else 0
def sE (ts : List Tk) (n : Int) : Int := if 0 ≤ n ∧ n < ts.length then 0 else 2
theorem state2_any (g : Nat) (v : Value) (n : Int) (w : World) (ts : List Tk) (hT : Tab w g v ts) (hl : ts.length ≤ 256) :
    Calls Try.prog 12 #[.pointer (some ⟨g, 0, none⟩), .int .i64 n] w fun e w' => e = .returned (.tuple #[.int .i64 (sN ts n), .int .i64 (sE ts n)]) ∧ Below w.heap.size w w' := by
  by_cases h : 0 ≤ n ∧ n < ts.length
  · obtain ⟨k, rfl⟩ := Int.eq_ofNat_of_zero_le h.1
    have e1 : sN ts (k : Int) = stOf ts k := by unfold sN; rw [if_pos h, Int.toNat_natCast]
    have e2 : sE ts (k : Int) = 0 := if_pos h
    rw [e1, e2]
    exact State_ok g v k w ts hT (by omega) hl
  · have e1 : sN ts n = 0 := if_neg h
    have e2 : sE ts n = 2 := if_neg h
    rw [e1, e2]
    exact (State_bad g v n w ts hT (by omega)).mono fun e w' ⟨h1, h2⟩ => ⟨h1, by rw [h2]; exact Below.refl _ _⟩
theorem rstate2_any (base : Nat) (v : Value) (n : Int) (w : World) (ts : List Tk) (hT : RR w base v ts) (hl : ts.length ≤ 256) :
    Calls Try.prog 21 #[v, .int .i64 n] w fun e w' => e = .returned (.tuple #[.int .i64 (sN ts n), .int .i64 (sE ts n)]) ∧ Below w.heap.size w w' := by
  by_cases h : 0 ≤ n ∧ n < ts.length
  · obtain ⟨k, rfl⟩ := Int.eq_ofNat_of_zero_le h.1
    have e1 : sN ts (k : Int) = stOf ts k := by unfold sN; rw [if_pos h, Int.toNat_natCast]
    have e2 : sE ts (k : Int) = 0 := if_pos h
    rw [e1, e2]
    exact rstate_any base v k w ts hT (by omega) hl
  · have e1 : sN ts n = 0 := if_neg h
    have e2 : sE ts n = 2 := if_neg h
    rw [e1, e2]
    exact (rstate_bad base v ts n w hT (by omega)).mono fun e w' ⟨h1, h2⟩ => ⟨h1, by rw [h2]; exact Below.refl _ _⟩
theorem aT_le {ts : List Tk} {o l h : Int} {al : Bool} (hl : ts.length ≤ 256) : (aT ts o l h al).length ≤ 256 := by
  unfold aT; split
  · rename_i c; have := c.2; simp; omega
  · exact hl
theorem fT_le {ts : List Tk} {n : Int} (hl : ts.length ≤ 256) : (fT ts n).length ≤ 256 := by
  unfold fT; split
  · rw [gone_length]; exact hl
  · exact hl
theorem lT_le {ts : List Tk} {o : Int} (hl : ts.length ≤ 256) : (lT ts o).length ≤ 256 := by
  unfold lT; split
  · simpa [lvs] using hl
  · exact hl
end Go.Proofs.Ytgegkebbbpapiaa.Dlm
