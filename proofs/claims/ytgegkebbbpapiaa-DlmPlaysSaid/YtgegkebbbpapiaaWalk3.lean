/- The walks of dlm's Leave, Granted and Waiting. -/
import Derived.Test.YtgegkebbbpapiaaWalk2
namespace Go.Proofs.Ytgegkebbbpapiaa.Dlm
open Go.RowKit
/-- An owner leaves: what becomes of a ticket; of all; how many go. -/
def hit (o : Int) (t : Tk) : Bool := decide (t.owner = o) && !t.gone
def lv (o : Int) (t : Tk) : Tk := if hit o t then { t with gone := true } else t
def lvs (o : Int) (ts : List Tk) : List Tk := ts.map (lv o)
def cnt (o : Int) (ts : List Tk) : Nat := ts.countP (hit o)
def lvTo (o : Int) (ts : List Tk) (i : Nat) : List Tk := lvs o (ts.take i) ++ ts.drop i
theorem lvTo_length (o : Int) (ts : List Tk) (i : Nat) : (lvTo o ts i).length = ts.length := by simp [lvTo, lvs]; omega
theorem lvTo_at (o : Int) (ts : List Tk) (i : Nat) (hi : i < ts.length) : (lvTo o ts i)[i]? = ts[i]? := by
  unfold lvTo
  rw [List.getElem?_append_right (by simp [lvs]; omega)]
  simp [lvs]
  congr 1
  omega
theorem lvTo_succ (o : Int) (ts : List Tk) (i : Nat) (t : Tk) (h : ts[i]? = some t) : lvTo o ts (i + 1) = (lvTo o ts i).set i (lv o t) := by
  have hl : i < ts.length := (List.getElem?_eq_some_iff.1 h).1
  unfold lvTo
  have hlen : (lvs o (ts.take i)).length = i := by simp [lvs]; omega
  rw [List.take_add_one, h, List.set_append_right _ _ (by omega), hlen, Nat.sub_self]
  rw [show ts.drop i = t :: ts.drop (i + 1) from by
    rw [List.drop_eq_getElem_cons hl]; congr 1; rw [List.getElem?_eq_getElem hl] at h; exact Option.some.inj h]
  simp [lvs]
theorem lvTo_hit (o : Int) (ts : List Tk) (i : Nat) (t : Tk) (h : ts[i]? = some t) (ht : hit o t = true) : gone (lvTo o ts i) i = lvTo o ts (i + 1) := by
  have hl : i < ts.length := (List.getElem?_eq_some_iff.1 h).1
  rw [lvTo_succ o ts i t h]
  unfold gone lv
  rw [lvTo_at o ts i hl, h, if_pos ht]
theorem set_same {l : List Tk} {i : Nat} {t : Tk} (h : l[i]? = some t) : l.set i t = l := by
  apply List.ext_getElem?
  intro j
  rw [List.getElem?_set]
  split
  · rename_i e; subst e
    obtain ⟨h1, h2⟩ := List.getElem?_eq_some_iff.1 h
    rw [if_pos h1, h]
  · rfl
theorem lvTo_miss (o : Int) (ts : List Tk) (i : Nat) (t : Tk) (h : ts[i]? = some t) (ht : hit o t = false) : lvTo o ts i = lvTo o ts (i + 1) := by
  have hl : i < ts.length := (List.getElem?_eq_some_iff.1 h).1
  rw [lvTo_succ o ts i t h]
  unfold lv
  rw [if_neg (by simp [ht])]
  have e := lvTo_at o ts i hl
  rw [h] at e
  exact (set_same e).symm
theorem cnt_succ (o : Int) (ts : List Tk) (i : Nat) (t : Tk) (h : ts[i]? = some t) : cnt o (ts.take (i + 1)) = cnt o (ts.take i) + (if hit o t then 1 else 0) := by
  unfold cnt
  rw [List.take_add_one, h, List.countP_append]
  simp [List.countP_cons]
theorem Tab.free' {w : World} {g r n cap : Nat} {ts : List Tk} {k : Nat} {t : Tk} (h : Tab w g (.slice (some ⟨r, 0, none⟩) n cap) ts) (hn : n = ts.length) (hk : ts[k]? = some t) :
    Tab (w.setCell ⟨r, k * 5 + 4, none⟩ (.bool true)) g (.slice (some ⟨r, 0, none⟩) n cap) (gone ts k) := by subst hn; exact Tab.free h hk
theorem Leave_bad (g : Nat) (o : Int) (w : World) (h : o < 0 ∨ 15 < o) :
    Calls Try.prog 11 #[.pointer (some ⟨g, 0, none⟩), .int .i64 o] w fun e w' => e = .returned (.tuple #[.int .i64 0, .int .i64 2]) ∧ w' = w := by
  by_cases h1 : o < 0
  · clear h
    go_enter Try.func11, Try.ntmps11
    go_wp2
    go_ret2
    exact ⟨rfl, rfl⟩
  have h2 : 15 < o := by omega
  clear h
  go_enter Try.func11, Try.ntmps11
  go_wp2
  go_ret2
  exact ⟨rfl, rfl⟩
theorem Leave_nil (o : Int) (w : World) : Calls Try.prog 11 #[.pointer none, .int .i64 o] w fun e w' => e = .returned (.tuple #[.int .i64 0, .int .i64 2]) ∧ w' = w := by
  go_enter Try.func11, Try.ntmps11
  go_wp2
  go_ret2
  exact ⟨rfl, rfl⟩
set_option maxRecDepth 100000 in
theorem Leave_ok (g : Nat) (v : Value) (o : Int) (w : World) (ts : List Tk) (hT : Tab w g v ts) (hl : ts.length ≤ 256) (h1 : 0 ≤ o) (h2 : o ≤ 15) :
    Calls Try.prog 11 #[.pointer (some ⟨g, 0, none⟩), .int .i64 o] w fun e w' => e = .returned (.tuple #[.int .i64 (cnt o ts : Int), .int .i64 0]) ∧ Tab w' g v (lvs o ts) ∧ Only v.ownBlock.toList w w' := by
  obtain ⟨A, cap, rfl, hlc, hcm⟩ := Row.form hT.2
  have hcell : w.cell? ⟨g, 0, none⟩ = some (.slice A ts.length cap) := by rw [cell_of_heap hT.1]; rfl
  have HT := Lib.hid hT
  clear hT
  unfold maxLen at hcm
  go_enter Try.func11, Try.ntmps11
  go_wp2_with (fail)
  go_loopg [6, 24] (ts.length) (fun q v6 v24 wr => ∃ i : Nat, i ≤ ts.length ∧ v6 = .int .i64 (cnt o (ts.take i) : Int) ∧ v24 = .int .i64 i ∧ q = ts.length - i ∧ Tab wr g (.slice A ts.length cap) (lvTo o ts i) ∧ Only (Value.slice A ts.length cap).ownBlock.toList w wr)
  case atStart => exact ⟨0, by omega, rfl, rfl, rfl, HT.out, Only.refl _ _⟩
  case round =>
    obtain ⟨i, hi, rfl, rfl, hq, hTr, hO⟩ := hrel
    have hcr : wr.cell? ⟨g, 0, none⟩ = some (.slice A ts.length cap) := by rw [cell_of_heap hTr.1]; rfl
    have HTr := Lib.hid hTr
    have HOr := Lib.hid hO
    have HQ := Lib.hid hq
    clear hTr hO hq
    by_cases hlt : i < ts.length
    · obtain ⟨t, ht⟩ : ∃ t, ts[i]? = some t := ⟨_, List.getElem?_eq_getElem hlt⟩
      have hcs := cnt_succ o ts i t ht
      have hle : cnt o (ts.take i) ≤ i := by unfold cnt; exact Nat.le_trans List.countP_le_length (List.length_take_le _ _)
      obtain ⟨r, rfl⟩ : ∃ r, A = some ⟨r, 0, none⟩ := by
        rcases HT.out.2.nil_or with ⟨_, h0⟩ | ⟨r, c, hv, _⟩
        · rw [h0] at hlt; simp at hlt
        · injection hv with hA; exact ⟨r, hA⟩
      obtain ⟨x0, x1, x2, x3, x4⟩ := Row.cells HTr.out.2 ((lvTo_at o ts i hlt).trans ht)
      have hf : wr.frozen? ⟨r, i * 5 + 4, none⟩ = false := by
        have := HTr.out.2
        unfold Row at this
        rw [lvTo_length] at this
        exact this.frozenAt _
      have HC := Lib.hid hcs
      have HX := Lib.hid ht
      clear hcs ht
      obtain ⟨to, tl, th, ta, tg⟩ := t
      simp only at x0 x1 x2 x3 x4
      generalize cnt o (ts.take i) = c at *
      go_wp2_with (fail)
      · have e1 : to = o := by assumption
        have e2 : (!tg) = true := by assumption
        have eh : hit o ⟨to, tl, th, ta, tg⟩ = true := by unfold hit; simp only [e1, decide_true, e2, Bool.and_self]
        go_roundg (ts.length - (i + 1))
        case measure => have := HQ.out; omega
        case rel => exact ⟨i + 1, by omega, by rw [HC.out, if_pos eh]; go_num, by go_num, rfl, by rw [← lvTo_hit o ts i _ HX.out eh]; exact Tab.free' HTr.out (lvTo_length o ts i).symm ((lvTo_at o ts i hlt).trans HX.out), HOr.out.trans (Only.set (p := ⟨r, i * 5 + 4, none⟩) _) (fun x hx => .inl (by simp at hx; subst hx; simp [Value.ownBlock]))⟩
      · have e2 : (!tg) = false := by assumption
        have eh : hit o ⟨to, tl, th, ta, tg⟩ = false := by unfold hit; simp only [e2, Bool.and_false]
        go_roundg (ts.length - (i + 1))
        case measure => have := HQ.out; omega
        case rel => exact ⟨i + 1, by omega, by rw [HC.out, if_neg (by simp [eh])]; go_num, by go_num, rfl, by rw [← lvTo_miss o ts i _ HX.out eh]; exact HTr.out, HOr.out⟩
      · have e1 : ¬ to = o := by assumption
        have eh : hit o ⟨to, tl, th, ta, tg⟩ = false := by unfold hit; simp only [e1, decide_false, Bool.false_and]
        go_roundg (ts.length - (i + 1))
        case measure => have := HQ.out; omega
        case rel => exact ⟨i + 1, by omega, by rw [HC.out, if_neg (by simp [eh])]; go_num, by go_num, rfl, by rw [← lvTo_miss o ts i _ HX.out eh]; exact HTr.out, HOr.out⟩
    · obtain rfl : i = ts.length := by omega
      have e1 : ts.take ts.length = ts := List.take_length
      have e2 : lvTo o ts ts.length = lvs o ts := by unfold lvTo; rw [List.take_length, List.drop_length, List.append_nil]
      have HE1 := Lib.hid e1
      have HE2 := Lib.hid e2
      clear e1 e2
      go_wp2_with (fail)
      go_ret2
      exact ⟨by rw [HE1.out]; rfl, by rw [← HE2.out]; exact HTr.out, HOr.out⟩
/-- The closures: is ticket k in state s? -/
theorem granted1 (g c : Nat) (v : Value) (k : Nat) (w : World) (ts : List Tk) (hT : Tab w g v ts) (hc : w.cell? ⟨c, 0, none⟩ = some (.pointer (some ⟨g, 0, none⟩))) (hk : k < ts.length) (hl : ts.length ≤ 256) :
    Calls Try.prog 26 #[.int .i64 (k : Int), .pointer (some ⟨c, 0, none⟩)] w fun e w' => e = .returned (.bool (stOf ts k == 2)) ∧ Below w.heap.size w w' := by
  have C := Lib.hid (state_any g v k w ts hT hk hl)
  clear hT
  generalize stOf ts k = s at *
  go_enter Try.func26, Try.ntmps26
  go_wp2_with (fail)
  refine C.out.mono ?_
  rintro e w' ⟨rfl, hb⟩
  go_wp2_with (fail)
  go_ret
  exact ⟨rfl, hb⟩
theorem waiting1 (g c : Nat) (v : Value) (k : Nat) (w : World) (ts : List Tk) (hT : Tab w g v ts) (hc : w.cell? ⟨c, 0, none⟩ = some (.pointer (some ⟨g, 0, none⟩))) (hk : k < ts.length) (hl : ts.length ≤ 256) :
    Calls Try.prog 27 #[.int .i64 (k : Int), .pointer (some ⟨c, 0, none⟩)] w fun e w' => e = .returned (.bool (stOf ts k == 1)) ∧ Below w.heap.size w w' := by
  have C := Lib.hid (state_any g v k w ts hT hk hl)
  clear hT
  generalize stOf ts k = s at *
  go_enter Try.func27, Try.ntmps27
  go_wp2_with (fail)
  refine C.out.mono ?_
  rintro e w' ⟨rfl, hb⟩
  go_wp2_with (fail)
  go_ret
  exact ⟨rfl, hb⟩
/-- The tickets in state s, among the first k. -/
def those (ts : List Tk) (s : Int) (k : Nat) : List Nat := (List.range k).filter fun i => stOf ts i == s
def ints (l : List Nat) : List Value := l.map fun (i : Nat) => .int .i64 (i : Int)
theorem those_succ (ts : List Tk) (s : Int) (k : Nat) : those ts s (k + 1) = those ts s k ++ (if stOf ts k == s then [k] else []) := by
  unfold those
  rw [List.range_succ, List.filter_append]
  simp [List.filter_cons]
theorem those_le (ts : List Tk) (s : Int) (k : Nat) : (those ts s k).length ≤ k := by
  unfold those
  exact Nat.le_trans (List.length_filter_le _ _) (by simp)
theorem info3 : (Try.prog.info? 3).map (fun i => (i.zero, i.size, i.bytes)) = some (some (.int .i64 0), 1, 8) := by kernel_rfl
theorem own_lower {w : World} {base base' : Nat} {e : TypeId} {size : Nat} {v : Value} {n : Nat} {xs : List Value} (h : w.ownsRow base e size v n xs) (hb : base' ≤ base) : w.ownsRow base' e size v n xs := by
  obtain ⟨h1, h2⟩ := h
  refine ⟨h1, ?_⟩
  rcases h2 with h2 | ⟨g, cap, cur, hv, hg, r⟩
  · exact .inl h2
  · exact .inr ⟨g, cap, cur, hv, by omega, r⟩
set_option maxRecDepth 100000 in
theorem choose_granted (g c : Nat) (v : Value) (w : World) (ts : List Tk) (hT : Tab w g v ts) (hc : w.cell? ⟨c, 0, none⟩ = some (.pointer (some ⟨g, 0, none⟩))) (hcl : c < w.heap.size) (hl : ts.length ≤ 256) :
    Calls Try.prog 25 #[.pointer (some ⟨g, 0, none⟩), .func (Fn.func 26) #[] #[.pointer (some ⟨c, 0, none⟩)]] w fun e w' => ∃ u, e = .returned u ∧ w'.ownsRow w.heap.size 3 1 u (those ts 2 ts.length).length (ints (those ts 2 ts.length)) ∧ Below w.heap.size w w' := by
  obtain ⟨A, cap, rfl, hlc, hcm⟩ := Row.form hT.2
  obtain ⟨i0, hi0, hz0, hz1, hz2⟩ := info_parts info3
  have hcell : w.cell? ⟨g, 0, none⟩ = some (.slice A ts.length cap) := by rw [cell_of_heap hT.1]; rfl
  have hglt := hT.lt
  have HT := Lib.hid hT
  clear hT
  unfold maxLen at hcm
  go_enter Try.func25, Try.ntmps25
  go_wp2_with (fail)
  go_loopg [5, 14] (ts.length) (fun q v5 v14 wr => ∃ k : Nat, k ≤ ts.length ∧ v14 = .int .i64 k ∧ q = ts.length - k ∧ wr.ownsRow w.heap.size 3 1 v5 (those ts 2 k).length (ints (those ts 2 k)) ∧ Below w.heap.size w wr)
  case atStart => exact ⟨0, by omega, rfl, rfl, by simpa [those, ints] using World.ownsRow_nil _ _ _ _, Below.refl _ _⟩
  case round =>
    obtain ⟨k, hk, rfl, hq, hown, hb⟩ := hrel
    have HQ := Lib.hid hq
    have HO := Lib.hid hown
    have HB := Lib.hid hb
    have hbs := hb.size
    have hcr : wr.cell? ⟨g, 0, none⟩ = some (.slice A ts.length cap) := (bcell hb g 0 hglt).trans hcell
    have hccr : wr.cell? ⟨c, 0, none⟩ = some (.pointer (some ⟨g, 0, none⟩)) := (bcell hb c 0 hcl).trans hc
    have HTr := Lib.hid (HT.out.below hb)
    clear hq hown hb
    by_cases hlt : k < ts.length
    · have C := Lib.hid (granted1 g c _ k wr ts HTr.out hccr hlt hl)
      have hs := those_succ ts 2 k
      have hle := those_le ts 2 k
      have HS := Lib.hid hs
      clear hs
      generalize hst : (stOf ts k == 2) = b at *
      clear hst
      go_wp2_with (fail)
      refine C.out.mono ?_
      rintro e w1 ⟨rfl, hb1⟩
      have hs1 := hb1.size
      have HB1 := Lib.hid hb1
      have HO1 := Lib.hid (own_kept HO.out (Only.of_below hb1 []) (by simp))
      clear hb1
      generalize those ts 2 k = L at *
      cases b
      · go_wp2_with (fail)
        go_roundg (ts.length - (k + 1))
        case measure => have := HQ.out; omega
        case rel => exact ⟨k + 1, by omega, by go_num, rfl, by rw [HS.out]; simpa using HO1.out, HB.out.trans (HB1.out.mono hbs)⟩
      · go_wp2_with (at_builtin; refine wpList_append_own_at _ rfl (.tmp 20) (.tmp 22) 35 rfl w.heap.size 3 i0 _ 1 8 Try.underlying35 hi0 hz0 hz1 hz2 rfl (by omega) _ L.length (ints L) rfl (HO1.out.alloc _) ⟨w1.heap.size, 0, none⟩ 1 1 [.int .i64 (k : Int)] rfl rfl (cells_new w1 [.int .i64 (k : Int)] 3) (by intro u hu; simp at hu; subst hu; rfl) (by unfold maxLen; omega) (by omega) (by simp; omega) ?_; intro v' w2 hown2 hg2 _ hat; have HO2 := Lib.hid hown2; have HG2 := Lib.hid hg2; clear hown2 hg2 hat)
        go_roundg (ts.length - (k + 1))
        case measure => have := HQ.out; omega
        case rel =>
          refine ⟨k + 1, by omega, by go_num, rfl, ?_, ?_⟩
          · rw [HS.out]; simpa [ints] using HO2.out
          · exact ((HB.out.trans (HB1.out.mono hbs)).alloc (by omega) _).grown HG2.out (by simp; omega) (fun q hq => (HO1.out.lt q hq).1)
    · obtain rfl : k = ts.length := by omega
      go_wp2_with (fail)
      go_ret
      exact ⟨_, rfl, HO.out, HB.out⟩
theorem Granted_ok (g : Nat) (v : Value) (w : World) (ts : List Tk) (hT : Tab w g v ts) (hl : ts.length ≤ 256) :
    Calls Try.prog 13 #[.pointer (some ⟨g, 0, none⟩)] w fun e w' => ∃ u, e = .returned u ∧ w'.ownsRow w.heap.size 3 1 u (those ts 2 ts.length).length (ints (those ts 2 ts.length)) ∧ Below w.heap.size w w' := by
  have hT2 : Tab (w.alloc (.cells #[.pointer (some ⟨g, 0, none⟩)] 24)) g v ts := hT.below ((Below.refl _ _).alloc (Nat.le_refl _) _)
  have hc : (w.alloc (.cells #[.pointer (some ⟨g, 0, none⟩)] 24)).cell? ⟨w.heap.size, 0, none⟩ = some (.pointer (some ⟨g, 0, none⟩)) := by rw [cell_of_heap (heap_alloc_new w _)]; rfl
  have C := Lib.hid (choose_granted g w.heap.size v _ ts hT2 hc (by simp) hl)
  clear hT hT2 hc
  go_enter Try.func13, Try.ntmps13
  go_wp2_with (fail)
  refine C.out.mono ?_
  rintro e w' ⟨u, rfl, hown, hb⟩
  have HO := Lib.hid hown
  have HB := Lib.hid hb
  clear hown hb
  go_wp2_with (fail)
  go_ret
  exact ⟨u, rfl, own_lower HO.out (by simp), ((Below.refl _ _).alloc (Nat.le_refl _) _).trans (HB.out.mono (by simp))⟩
theorem Granted_nil (w : World) : Calls Try.prog 13 #[.pointer none] w fun e w' => e = .returned (.slice none 0 0) ∧ Below w.heap.size w w' := by
  go_enter Try.func13, Try.ntmps13
  go_wp2_with (fail)
  go_in
  go_wp2
  go_ret
  exact ⟨rfl, (Below.refl _ _).alloc (Nat.le_refl _) _⟩
set_option maxRecDepth 100000 in
theorem choose_waiting (g c : Nat) (v : Value) (w : World) (ts : List Tk) (hT : Tab w g v ts) (hc : w.cell? ⟨c, 0, none⟩ = some (.pointer (some ⟨g, 0, none⟩))) (hcl : c < w.heap.size) (hl : ts.length ≤ 256) :
    Calls Try.prog 25 #[.pointer (some ⟨g, 0, none⟩), .func (Fn.func 27) #[] #[.pointer (some ⟨c, 0, none⟩)]] w fun e w' => ∃ u, e = .returned u ∧ w'.ownsRow w.heap.size 3 1 u (those ts 1 ts.length).length (ints (those ts 1 ts.length)) ∧ Below w.heap.size w w' := by
  obtain ⟨A, cap, rfl, hlc, hcm⟩ := Row.form hT.2
  obtain ⟨i0, hi0, hz0, hz1, hz2⟩ := info_parts info3
  have hcell : w.cell? ⟨g, 0, none⟩ = some (.slice A ts.length cap) := by rw [cell_of_heap hT.1]; rfl
  have hglt := hT.lt
  have HT := Lib.hid hT
  clear hT
  unfold maxLen at hcm
  go_enter Try.func25, Try.ntmps25
  go_wp2_with (fail)
  go_loopg [5, 14] (ts.length) (fun q v5 v14 wr => ∃ k : Nat, k ≤ ts.length ∧ v14 = .int .i64 k ∧ q = ts.length - k ∧ wr.ownsRow w.heap.size 3 1 v5 (those ts 1 k).length (ints (those ts 1 k)) ∧ Below w.heap.size w wr)
  case atStart => exact ⟨0, by omega, rfl, rfl, by simpa [those, ints] using World.ownsRow_nil _ _ _ _, Below.refl _ _⟩
  case round =>
    obtain ⟨k, hk, rfl, hq, hown, hb⟩ := hrel
    have HQ := Lib.hid hq
    have HO := Lib.hid hown
    have HB := Lib.hid hb
    have hbs := hb.size
    have hcr : wr.cell? ⟨g, 0, none⟩ = some (.slice A ts.length cap) := (bcell hb g 0 hglt).trans hcell
    have hccr : wr.cell? ⟨c, 0, none⟩ = some (.pointer (some ⟨g, 0, none⟩)) := (bcell hb c 0 hcl).trans hc
    have HTr := Lib.hid (HT.out.below hb)
    clear hq hown hb
    by_cases hlt : k < ts.length
    · have C := Lib.hid (waiting1 g c _ k wr ts HTr.out hccr hlt hl)
      have hs := those_succ ts 1 k
      have hle := those_le ts 1 k
      have HS := Lib.hid hs
      clear hs
      generalize hst : (stOf ts k == 1) = b at *
      clear hst
      go_wp2_with (fail)
      refine C.out.mono ?_
      rintro e w1 ⟨rfl, hb1⟩
      have hs1 := hb1.size
      have HB1 := Lib.hid hb1
      have HO1 := Lib.hid (own_kept HO.out (Only.of_below hb1 []) (by simp))
      clear hb1
      generalize those ts 1 k = L at *
      cases b
      · go_wp2_with (fail)
        go_roundg (ts.length - (k + 1))
        case measure => have := HQ.out; omega
        case rel => exact ⟨k + 1, by omega, by go_num, rfl, by rw [HS.out]; simpa using HO1.out, HB.out.trans (HB1.out.mono hbs)⟩
      · go_wp2_with (at_builtin; refine wpList_append_own_at _ rfl (.tmp 20) (.tmp 22) 35 rfl w.heap.size 3 i0 _ 1 8 Try.underlying35 hi0 hz0 hz1 hz2 rfl (by omega) _ L.length (ints L) rfl (HO1.out.alloc _) ⟨w1.heap.size, 0, none⟩ 1 1 [.int .i64 (k : Int)] rfl rfl (cells_new w1 [.int .i64 (k : Int)] 3) (by intro u hu; simp at hu; subst hu; rfl) (by unfold maxLen; omega) (by omega) (by simp; omega) ?_; intro v' w2 hown2 hg2 _ hat; have HO2 := Lib.hid hown2; have HG2 := Lib.hid hg2; clear hown2 hg2 hat)
        go_roundg (ts.length - (k + 1))
        case measure => have := HQ.out; omega
        case rel =>
          refine ⟨k + 1, by omega, by go_num, rfl, ?_, ?_⟩
          · rw [HS.out]; simpa [ints] using HO2.out
          · exact ((HB.out.trans (HB1.out.mono hbs)).alloc (by omega) _).grown HG2.out (by simp; omega) (fun q hq => (HO1.out.lt q hq).1)
    · obtain rfl : k = ts.length := by omega
      go_wp2_with (fail)
      go_ret
      exact ⟨_, rfl, HO.out, HB.out⟩
theorem Waiting_ok (g : Nat) (v : Value) (w : World) (ts : List Tk) (hT : Tab w g v ts) (hl : ts.length ≤ 256) :
    Calls Try.prog 15 #[.pointer (some ⟨g, 0, none⟩)] w fun e w' => ∃ u, e = .returned u ∧ w'.ownsRow w.heap.size 3 1 u (those ts 1 ts.length).length (ints (those ts 1 ts.length)) ∧ Below w.heap.size w w' := by
  have hT2 : Tab (w.alloc (.cells #[.pointer (some ⟨g, 0, none⟩)] 24)) g v ts := hT.below ((Below.refl _ _).alloc (Nat.le_refl _) _)
  have hc : (w.alloc (.cells #[.pointer (some ⟨g, 0, none⟩)] 24)).cell? ⟨w.heap.size, 0, none⟩ = some (.pointer (some ⟨g, 0, none⟩)) := by rw [cell_of_heap (heap_alloc_new w _)]; rfl
  have C := Lib.hid (choose_waiting g w.heap.size v _ ts hT2 hc (by simp) hl)
  clear hT hT2 hc
  go_enter Try.func15, Try.ntmps15
  go_wp2_with (fail)
  refine C.out.mono ?_
  rintro e w' ⟨u, rfl, hown, hb⟩
  have HO := Lib.hid hown
  have HB := Lib.hid hb
  clear hown hb
  go_wp2_with (fail)
  go_ret
  exact ⟨u, rfl, own_lower HO.out (by simp), ((Below.refl _ _).alloc (Nat.le_refl _) _).trans (HB.out.mono (by simp))⟩
theorem Waiting_nil (w : World) : Calls Try.prog 15 #[.pointer none] w fun e w' => e = .returned (.slice none 0 0) ∧ Below w.heap.size w w' := by
  go_enter Try.func15, Try.ntmps15
  go_wp2_with (fail)
  go_in
  go_wp2
  go_ret
  exact ⟨rfl, (Below.refl _ _).alloc (Nat.le_refl _) _⟩
end Go.Proofs.Ytgegkebbbpapiaa.Dlm
