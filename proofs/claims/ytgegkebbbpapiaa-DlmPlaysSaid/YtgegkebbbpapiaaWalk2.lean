/- The walks of dlm's New, Ask, State and Free. -/
import Derived.Test.YtgegkebbbpapiaaWalk1
import Derived.Maps.AppendAt
import Derived.Laws.Rows
import Derived.RowKit3
namespace Go.Proofs.Ytgegkebbbpapiaa.Dlm
open Go.RowKit
theorem Row.form {w : World} {base : Nat} {v : Value} {ts : List Tk} (h : Row w base v ts) : ∃ A cap, v = .slice A ts.length cap ∧ ts.length ≤ cap ∧ cap ≤ maxLen := by
  rcases h.nil_or with ⟨rfl, rfl⟩ | ⟨r, cap, rfl, _, _, h1, h2⟩
  · exact ⟨none, 0, rfl, Nat.le_refl _, by unfold maxLen; omega⟩
  · exact ⟨_, _, rfl, h1, h2⟩
theorem new_any (w : World) : Calls Try.prog 16 #[] w fun e w' => e = .returned (.pointer (some ⟨w.heap.size, 0, none⟩)) ∧ w' = w.alloc (.cells #[.slice none 0 0] 57) := by
  go_enter Try.func16, Try.ntmps16
  go_wp2
  go_ret
  exact ⟨rfl, rfl⟩
theorem tab_new (w : World) : Tab (w.alloc (.cells #[.slice none 0 0] 57)) w.heap.size (.slice none 0 0) [] := ⟨heap_alloc_new w _, World.ownsRow_nil _ _ _ _⟩
theorem State_bad (g : Nat) (v : Value) (n : Int) (w : World) (ts : List Tk) (hT : Tab w g v ts) (hn : n < 0 ∨ (ts.length : Int) ≤ n) :
    Calls Try.prog 12 #[.pointer (some ⟨g, 0, none⟩), .int .i64 n] w fun e w' => e = .returned (.tuple #[.int .i64 0, .int .i64 2]) ∧ w' = w := by
  obtain ⟨A, cap, rfl, _, _⟩ := Row.form hT.2
  have hcell : w.cell? ⟨g, 0, none⟩ = some (.slice A ts.length cap) := by rw [cell_of_heap hT.1]; rfl
  clear hT
  rcases Int.lt_or_le n 0 with h | h
  · go_enter Try.func12, Try.ntmps12
    go_wp2
    go_ret2
    exact ⟨rfl, rfl⟩
  · have h2 : (ts.length : Int) ≤ n := by omega
    clear hn
    go_enter Try.func12, Try.ntmps12
    go_wp2
    go_ret2
    exact ⟨rfl, rfl⟩
theorem State_nil (n : Int) (w : World) : Calls Try.prog 12 #[.pointer none, .int .i64 n] w fun e w' => e = .returned (.tuple #[.int .i64 0, .int .i64 2]) ∧ w' = w := by
  go_enter Try.func12, Try.ntmps12
  go_wp2
  go_ret2
  exact ⟨rfl, rfl⟩
theorem State_ok (g : Nat) (v : Value) (k : Nat) (w : World) (ts : List Tk) (hT : Tab w g v ts) (hk : k < ts.length) (hl : ts.length ≤ 256) :
    Calls Try.prog 12 #[.pointer (some ⟨g, 0, none⟩), .int .i64 (k : Int)] w fun e w' => e = .returned (.tuple #[.int .i64 (stOf ts k), .int .i64 0]) ∧ Below w.heap.size w w' := by
  have C := Lib.hid (state_any g v k w ts hT hk hl)
  obtain ⟨A, cap, rfl, _, _⟩ := Row.form hT.2
  have hcell : w.cell? ⟨g, 0, none⟩ = some (.slice A ts.length cap) := by rw [cell_of_heap hT.1]; rfl
  clear hT
  go_enter Try.func12, Try.ntmps12
  go_wp2_with (fail)
  refine C.out.mono ?_
  rintro e w' ⟨rfl, hb⟩
  go_wp2_with (fail)
  go_ret2
  exact ⟨rfl, hb⟩
theorem Ask_bad (g : Nat) (owner lo hi : Int) (alone : Bool) (w : World) (h : owner < 0 ∨ 15 < owner ∨ lo < 0 ∨ hi < lo) :
    Calls Try.prog 17 #[.pointer (some ⟨g, 0, none⟩), .int .i64 owner, .int .i64 lo, .int .i64 hi, .bool alone] w fun e w' => e = .returned (.tuple #[.int .i64 0, .int .i64 2]) ∧ w' = w := by
  by_cases h1 : owner < 0
  · clear h
    go_enter Try.func17, Try.ntmps17
    go_wp2
    go_ret2
    exact ⟨rfl, rfl⟩
  by_cases h2 : 15 < owner
  · clear h
    go_enter Try.func17, Try.ntmps17
    go_wp2
    go_ret2
    exact ⟨rfl, rfl⟩
  by_cases h3 : lo < 0
  · clear h
    go_enter Try.func17, Try.ntmps17
    go_wp2
    go_ret2
    exact ⟨rfl, rfl⟩
  have h4 : hi < lo := by omega
  clear h
  go_enter Try.func17, Try.ntmps17
  go_wp2
  go_ret2
  exact ⟨rfl, rfl⟩
theorem Ask_nil (owner lo hi : Int) (alone : Bool) (w : World) :
    Calls Try.prog 17 #[.pointer none, .int .i64 owner, .int .i64 lo, .int .i64 hi, .bool alone] w fun e w' => e = .returned (.tuple #[.int .i64 0, .int .i64 2]) ∧ w' = w := by
  go_enter Try.func17, Try.ntmps17
  go_wp2
  go_ret2
  exact ⟨rfl, rfl⟩
set_option maxRecDepth 100000 in
theorem Ask_full (g : Nat) (v : Value) (owner lo hi : Int) (alone : Bool) (w : World) (ts : List Tk) (hT : Tab w g v ts) (hl : 256 ≤ ts.length) (h1 : 0 ≤ owner) (h2 : owner ≤ 15) (h3 : 0 ≤ lo) (h4 : lo ≤ hi) :
    Calls Try.prog 17 #[.pointer (some ⟨g, 0, none⟩), .int .i64 owner, .int .i64 lo, .int .i64 hi, .bool alone] w fun e w' => e = .returned (.tuple #[.int .i64 0, .int .i64 14]) ∧ w' = w := by
  obtain ⟨A, cap, rfl, _, _⟩ := Row.form hT.2
  have hcell : w.cell? ⟨g, 0, none⟩ = some (.slice A ts.length cap) := by rw [cell_of_heap hT.1]; rfl
  clear hT
  go_enter Try.func17, Try.ntmps17
  go_wp2
  go_ret2
  exact ⟨rfl, rfl⟩
theorem cells_new (w : World) (l : List Value) (t : TypeId) : ∀ j u, l[j]? = some u → (w.alloc (.cells l.toArray t)).cell? ((⟨w.heap.size, 0, none⟩ : Addr).add j) = some u := by
  intro j u h
  have e : (⟨w.heap.size, 0, none⟩ : Addr).add j = ⟨w.heap.size, j, none⟩ := by unfold Addr.add; split <;> simp_all
  rw [e, cell_of_heap (heap_alloc_new w _)]
  simpa using h
theorem cells_one (t : Tk) : ∀ u ∈ t.cells, u.oneCell' = true := by
  intro u hu
  simp [Tk.cells] at hu
  rcases hu with rfl | rfl | rfl | rfl | rfl <;> rfl
theorem info60 : (Try.prog.info? 60).map (fun i => (i.zero, i.size, i.bytes)) = some (some (.agg #[.int .i64 0, .int .i64 0, .int .i64 0, .bool false, .bool false]), 5, 32) := by kernel_rfl
set_option maxRecDepth 100000 in
theorem Ask_ok (g : Nat) (v : Value) (owner lo hi : Int) (alone : Bool) (w : World) (ts : List Tk) (hT : Tab w g v ts) (hl : ts.length < 256) (h1 : 0 ≤ owner) (h2 : owner ≤ 15) (h3 : 0 ≤ lo) (h4 : lo ≤ hi) :
    Calls Try.prog 17 #[.pointer (some ⟨g, 0, none⟩), .int .i64 owner, .int .i64 lo, .int .i64 hi, .bool alone] w fun e w' => e = .returned (.tuple #[.int .i64 (ts.length : Int), .int .i64 0]) ∧
      ∃ v', Tab w' g v' (ts ++ [⟨owner, lo, hi, alone, false⟩]) ∧ Only (g :: v.ownBlock.toList) w w' ∧ (v'.ownBlock = v.ownBlock ∨ ∃ k, v'.ownBlock = some k ∧ w.heap.size ≤ k) := by
  obtain ⟨i0, hi0, hz0, hz1, hz2⟩ := info_parts info60
  have HT := Lib.hid hT
  obtain ⟨A, cap, rfl, _, _⟩ := Row.form hT.2
  have hcell : w.cell? ⟨g, 0, none⟩ = some (.slice A ts.length cap) := by rw [cell_of_heap hT.1]; rfl
  have hglt := hT.lt
  have HO := Lib.hid (show w.ownsRow (g + 1) 60 5 (.slice A ts.length cap) ts.length (tks ts) from hT.2)
  clear hT
  go_enter Try.func17, Try.ntmps17
  have HW : ∀ (w1 : World), (w.alloc (.cells #[.int .i64 owner, .int .i64 lo, .int .i64 hi, .bool alone, .bool false] 60)).grownBy w1 (Value.slice A ts.length cap).ownBlock → Hid (w1.heap[g]? = some (.cells #[.slice A ts.length cap] 57 (0, 0))) := fun w1 h => by
    show _ = _
    rw [h.block g (by simp; omega) (fun e => by
      have := (HO.out.lt g e.symm).1
      omega), Below.heap_alloc _ _ _ hglt]
    exact HT.out.1
  go_wp2_with (at_builtin; refine wpList_append_own_at _ rfl (.tmp 43) (.tmp 49) 55 rfl (g + 1) 60 i0 _ 5 32 Try.underlying55 hi0 hz0 hz1 hz2 rfl (by omega) (.slice A ts.length cap) ts.length (tks ts) rfl (HO.out.alloc _) ⟨w.heap.size, 0, none⟩ 1 1 (Tk.cells ⟨owner, lo, hi, alone, false⟩) rfl rfl (cells_new w (Tk.cells ⟨owner, lo, hi, alone, false⟩) 60) (cells_one _) (by unfold maxLen; omega) (by omega) (by simp; omega) ?_; intro v' w1 hown1 hg1 _ hat; have hh1 := HW w1 hg1; have hc1 := (cell_of_heap hh1.out 0); have hf1 := frozen_of_heap hh1.out 0; obtain ⟨g2, cap2, rfl, hb2, hl2⟩ := hown1.form (by omega); have HO1 := Lib.hid hown1; have HG1 := Lib.hid hg1; have HA1 := Lib.hid hat; clear hown1 hg1 hat)
  go_ret2
  have hx : (ts ++ [(⟨owner, lo, hi, alone, false⟩ : Tk)]).length = ts.length + 1 := by simp
  refine ⟨rfl, .slice (some ⟨g2, 0, none⟩) (ts.length + 1) cap2, ⟨heap_set hh1.out 0 _, ?_⟩, ?_, ?_⟩
  · show World.ownsRow _ _ _ _ _ _ _
    rw [hx, tks_append, show tks [(⟨owner, lo, hi, alone, false⟩ : Tk)] = Tk.cells ⟨owner, lo, hi, alone, false⟩ from by simp [tks]]
    exact own_kept HO1.out (Only.set (p := ⟨g, 0, none⟩) _) (fun k hk => by simp [Value.ownBlock] at hk; simp; omega)
  · refine ((((Only.of_below ((Below.refl _ _).alloc (Nat.le_refl _) _) (g :: (Value.slice A ts.length cap).ownBlock.toList)).trans (Only.grown HG1.out) (fun x hx => .inl (by simp at hx ⊢; exact .inr hx))).trans (Only.set (p := ⟨g, 0, none⟩) _) (fun x hx => .inl (by simp at hx ⊢; exact .inl hx))))
  · rcases HA1.out with h | h
    · exact .inl h
    · exact .inr ⟨w.heap.size + 1, by simpa using h, by omega⟩
theorem Free_bad (g : Nat) (v : Value) (n : Int) (w : World) (ts : List Tk) (hT : Tab w g v ts) (hn : n < 0 ∨ (ts.length : Int) ≤ n) :
    Calls Try.prog 14 #[.pointer (some ⟨g, 0, none⟩), .int .i64 n] w fun e w' => e = .returned (.int .i64 2) ∧ w' = w := by
  have C := Lib.hid (State_bad g v n w ts hT hn)
  clear hT hn
  go_enter Try.func14, Try.ntmps14
  go_wp2_with (fail)
  refine C.out.mono ?_
  rintro e w' ⟨rfl, rfl⟩
  go_wp2_with (fail)
  go_ret
  exact ⟨rfl, rfl⟩
theorem Free_nil (n : Int) (w : World) : Calls Try.prog 14 #[.pointer none, .int .i64 n] w fun e w' => e = .returned (.int .i64 2) ∧ w' = w := by
  have C := Lib.hid (State_nil n w)
  go_enter Try.func14, Try.ntmps14
  go_wp2_with (fail)
  refine C.out.mono ?_
  rintro e w' ⟨rfl, rfl⟩
  go_wp2_with (fail)
  go_ret
  exact ⟨rfl, rfl⟩
theorem Free_gone (g : Nat) (v : Value) (k : Nat) (w : World) (ts : List Tk) (hT : Tab w g v ts) (hk : k < ts.length) (hl : ts.length ≤ 256) (hs : stOf ts k = 3) :
    Calls Try.prog 14 #[.pointer (some ⟨g, 0, none⟩), .int .i64 (k : Int)] w fun e w' => e = .returned (.int .i64 10) ∧ Below w.heap.size w w' := by
  have C0 := State_ok g v k w ts hT hk hl
  rw [hs] at C0
  have C := Lib.hid C0
  clear hT C0 hs
  go_enter Try.func14, Try.ntmps14
  go_wp2_with (fail)
  refine C.out.mono ?_
  rintro e w' ⟨rfl, hb⟩
  go_wp2_with (fail)
  go_ret
  exact ⟨rfl, hb⟩
/-- Ticket k is gone. -/
def gone (ts : List Tk) (k : Nat) : List Tk := match ts[k]? with
  | none => ts
  | some t => ts.set k { t with gone := true }
theorem gone_length (ts : List Tk) (k : Nat) : (gone ts k).length = ts.length := by unfold gone; split <;> simp
/-- A store of 'gone' into ticket k of a table. -/
theorem Tab.free {w : World} {g r cap : Nat} {ts : List Tk} {k : Nat} {t : Tk} (h : Tab w g (.slice (some ⟨r, 0, none⟩) ts.length cap) ts) (hk : ts[k]? = some t) :
    Tab (w.setCell ⟨r, k * 5 + 4, none⟩ (.bool true)) g (.slice (some ⟨r, 0, none⟩) ts.length cap) (gone ts k) := by
  have hr : g + 1 ≤ r := (h.2.lt r rfl).1
  refine ⟨?_, ?_⟩
  · rw [Below.heap_setCell _ _ _ _ (by show g ≠ r; omega)]; exact h.1
  · have := h.2.stored (k * 5 + 4) (.bool true)
    have e : gone ts k = ts.set k { t with gone := true } := by unfold gone; rw [hk]
    unfold Row
    rw [gone_length, e, ← tks_set ts k t hk]
    exact this.1
theorem Free_ok (g : Nat) (v : Value) (k : Nat) (w : World) (ts : List Tk) (hT : Tab w g v ts) (hk : k < ts.length) (hl : ts.length ≤ 256) (hs : stOf ts k ≠ 3) :
    Calls Try.prog 14 #[.pointer (some ⟨g, 0, none⟩), .int .i64 (k : Int)] w fun e w' => e = .returned (.int .i64 0) ∧ Tab w' g v (gone ts k) ∧ Only v.ownBlock.toList w w' := by
  have C0 := State_ok g v k w ts hT hk hl
  have hs3 : (stOf ts k == 3) = false := by rw [beq_eq_false_iff_ne]; exact hs
  obtain ⟨t, ht⟩ : ∃ t, ts[k]? = some t := ⟨_, List.getElem?_eq_getElem hk⟩
  generalize stOf ts k = s at C0 hs3
  have C := Lib.hid C0
  have HT := Lib.hid hT
  have HK := Lib.hid ht
  rcases Row.nil_or hT.2 with ⟨_, rfl⟩ | ⟨r, cap, rfl, hb, hr, hc, hm⟩
  · simp at hk
  have hg := hT.lt
  clear hT C0 hs ht
  unfold maxLen at hm
  go_enter Try.func14, Try.ntmps14
  go_wp2_with (fail)
  refine C.out.mono ?_
  rintro e w1 ⟨rfl, hb1⟩
  have HT1 := Lib.hid (HT.out.below hb1)
  have hcell : w1.cell? ⟨g, 0, none⟩ = some (.slice (some ⟨r, 0, none⟩) ts.length cap) := by rw [cell_of_heap HT1.out.1]; rfl
  have h4 := (Row.cells HT1.out.2 HK.out).2.2.2.2
  have hf : w1.frozen? ⟨r, k * 5 + 4, none⟩ = false := HT1.out.2.frozenAt _
  have HB := Lib.hid hb1
  clear hb1
  go_wp2_with (fail)
  go_ret
  exact ⟨rfl, Tab.free HT1.out HK.out, (Only.of_below HB.out _).trans (Only.set (p := ⟨r, k * 5 + 4, none⟩) _) (fun x hx => .inl (by simp at hx; subst hx; simp [Value.ownBlock]))⟩
end Go.Proofs.Ytgegkebbbpapiaa.Dlm
