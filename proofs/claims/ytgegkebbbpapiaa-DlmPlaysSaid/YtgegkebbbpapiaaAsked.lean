/- The walk of 'asked': a table in which the tickets of a script have been asked for, and those that were given. -/
import Derived.Test.YtgegkebbbpapiaaOps
namespace Go.Proofs.Ytgegkebbbpapiaa.Dlm
open Go.RowKit
theorem opcs_length (os : List Op5) : (opcs os).length = os.length * 5 := by
  induction os with
  | nil => rfl
  | cons t ts ih => simp only [opcs, List.flatMap_cons, List.length_append, List.length_cons] at ih ⊢; rw [ih]; simp [Op5.cells]; omega
theorem opcs_at (os : List Op5) (i : Nat) (t : Op5) (h : os[i]? = some t) (j : Nat) (hj : j < 5) : (opcs os)[i * 5 + j]? = t.cells[j]? := by
  induction os generalizing i with
  | nil => simp at h
  | cons x ts ih =>
    have hx : x.cells.length = 5 := rfl
    cases i with
    | zero =>
      simp at h; subst h
      simp only [opcs, List.flatMap_cons]
      rw [List.getElem?_append_left (by omega), Nat.zero_mul, Nat.zero_add]
    | succ i =>
      simp only [List.getElem?_cons_succ] at h
      simp only [opcs, List.flatMap_cons]
      rw [List.getElem?_append_right (by omega), hx, show (i + 1) * 5 + j - 5 = i * 5 + j from by omega]
      exact ih i h
/-- A row of steps of the call's own. -/
def Given (w : World) (base : Nat) (v : Value) (os : List Op5) : Prop := w.ownsRow base 28 5 v os.length (opcs os)
theorem Given.cells {w : World} {base : Nat} {r n cap : Nat} {ts : List Op5} (h : Given w base (.slice (some ⟨r, 0, none⟩) n cap) ts) {i : Nat} {t : Op5} (hi : ts[i]? = some t) :
    w.cell? ⟨r, i * 5, none⟩ = some (.int .i64 t.kind) ∧ w.cell? ⟨r, i * 5 + 1, none⟩ = some (.int .i64 t.owner) ∧ w.cell? ⟨r, i * 5 + 2, none⟩ = some (.int .i64 t.lo) ∧
    w.cell? ⟨r, i * 5 + 3, none⟩ = some (.int .i64 t.hi) ∧ w.cell? ⟨r, i * 5 + 4, none⟩ = some (.bool t.alone) := by
  have hl : i < ts.length := (List.getElem?_eq_some_iff.1 hi).1
  have hn : n = ts.length := by
    rcases h.2 with ⟨hv, h0⟩ | ⟨g, c, cur, hv, _⟩
    · cases hv
    · injection hv
  subst hn
  have key : ∀ j, j < 5 → w.cell? ⟨r, i * 5 + j, none⟩ = t.cells[j]? := fun j hj => by
    rw [h.cellAt (i * 5 + j) (by omega), opcs_at ts i t hi j hj]
  exact ⟨key 0 (by omega), key 1 (by omega), key 2 (by omega), key 3 (by omega), key 4 (by omega)⟩
theorem opcells_one (t : Op5) : ∀ u ∈ t.cells, u.oneCell' = true := by
  intro u hu
  simp [Op5.cells] at hu
  rcases hu with rfl | rfl | rfl | rfl | rfl <;> rfl
/-- What has been given tickets among the first i steps. -/
def asks (os : List Op5) (i : Nat) : List Op5 := (os.take i).filter Op5.ok
theorem asks_succ (os : List Op5) (i : Nat) (o : Op5) (h : os[i]? = some o) : asks os (i + 1) = asks os i ++ (if o.ok then [o] else []) := by
  unfold asks
  rw [List.take_add_one, h, List.filter_append]
  simp [List.filter_cons]
theorem asks_le (os : List Op5) (i : Nat) : (asks os i).length ≤ i := by
  unfold asks
  exact Nat.le_trans (List.length_filter_le _ _) (List.length_take_le _ _)
theorem info28 : (Try.prog.info? 28).map (fun i => (i.zero, i.size, i.bytes)) = some (some (.agg #[.int .i64 0, .int .i64 0, .int .i64 0, .int .i64 0, .bool false]), 5, 40) := by kernel_rfl
set_option linter.unusedVariables false in
set_option maxRecDepth 100000 in
theorem asked_any (A : Option Addr) (cap : Nat) (os : List Op5) (w : World) (hin : InOps w A os) (hlc : os.length ≤ cap) (hcm : cap ≤ maxLen) :
    Calls Try.prog 10 #[.slice A os.length cap] w fun e w' => ∃ vg vt, e = .returned (.tuple #[.pointer (some ⟨w.heap.size, 0, none⟩), vg]) ∧
      Tab w' w.heap.size vt ((asks os 60).map Op5.tk) ∧ Given w' w.heap.size vg (asks os 60) ∧ Below w.heap.size w w' := by
  obtain ⟨i0, hi0, hz0, hz1, hz2⟩ := info_parts info28
  have HIN := Lib.hid hin
  clear hin
  unfold maxLen at hcm
  go_enter Try.func10, Try.ntmps10
  go_wp2_with (fail)
  refine (new_any _).mono ?_
  rintro e w0 ⟨rfl, rfl⟩
  have hT0 := tab_new w
  have hB0 : Below w.heap.size w (w.alloc (.cells #[.slice none 0 0] 57)) := (Below.refl _ _).alloc (Nat.le_refl _) _
  have hz : (w.alloc (.cells #[.slice none 0 0] 57)).heap.size = w.heap.size + 1 := by simp
  generalize w.alloc (.cells #[.slice none 0 0] 57) = w0 at *
  have H0 := Lib.hid hT0
  have HB0 := Lib.hid hB0
  have HZ := Lib.hid hz
  clear hT0 hB0 hz
  go_wp2_with (fail)
  have hG0 : Given (w0.alloc (.cells #[] 28)) w.heap.size (.slice (some ⟨w0.heap.size, 0, none⟩) 0 0) [] :=
    ⟨by simp [opcs], .inr ⟨w0.heap.size, 0, #[], rfl, by have := HB0.out.size; omega, heap_alloc_new w0 _, Nat.le_refl _, by unfold maxLen; omega, rfl, rfl⟩⟩
  have HT1 := Lib.hid (H0.out.below ((Below.refl _ _).alloc (Nat.le_refl _) (.cells #[] 28)))
  have HB1 := Lib.hid (HB0.out.alloc HB0.out.size (.cells #[] 28))
  have HG1 := Lib.hid hG0
  clear hG0
  go_loopg [5, 6] (os.length) (fun q v5 v6 wr => ∃ i : Nat, i ≤ os.length ∧ i ≤ 60 ∧ v6 = .int .i64 i ∧ q = os.length - i ∧ Given wr w.heap.size v5 (asks os i) ∧ (∃ vt, Tab wr w.heap.size vt ((asks os i).map Op5.tk)) ∧ Below w.heap.size w wr)
  case atStart => exact ⟨0, by omega, by omega, rfl, rfl, HG1.out, ⟨_, HT1.out⟩, HB1.out⟩
  case round =>
    obtain ⟨i, hi, hi60, rfl, hq, hG, ⟨vt, hT⟩, hb⟩ := hrel
    have HQ := Lib.hid hq
    have HG := Lib.hid hG
    have HT := Lib.hid hT
    have HB := Lib.hid hb
    have hle := asks_le os i
    have hbs := hb.size
    clear hq hG hT hb
    by_cases hlt : i < os.length ∧ i < 60
    · obtain ⟨hlt, hlt60⟩ := hlt
      obtain ⟨o, ho⟩ : ∃ o, os[i]? = some o := ⟨_, List.getElem?_eq_getElem hlt⟩
      have hs := asks_succ os i o ho
      have HS := Lib.hid hs
      obtain ⟨b, off, rfl, hbl, hrow⟩ : ∃ b off, A = some ⟨b, off, none⟩ ∧ b < w.heap.size ∧ _ := by
        rcases HIN.out with h | ⟨b, off, hA, hbl, h⟩
        · rw [h] at hlt; simp at hlt
        · exact ⟨b, off, hA, hbl, h i o ho⟩
      obtain ⟨x0, x1, x2, x3, x4⟩ := hrow
      rw [← bcell HB.out b _ hbl] at x0 x1 x2 x3 x4
      have hbr : b < wr.heap.size := Nat.lt_of_lt_of_le hbl hbs
      obtain ⟨ok, oo, ol, oh, oa⟩ := o
      simp only at x0 x1 x2 x3 x4
      clear ho hs
      have hGf : ∃ Ag cg, u5 = .slice Ag (asks os i).length cg ∧ (asks os i).length ≤ cg := by
        rcases HG.out.2 with ⟨hv, h0⟩ | ⟨g, c, cur, hv, _, _, h1, _⟩
        · exact ⟨none, 0, by rw [hv, h0], by omega⟩
        · exact ⟨_, c, hv, h1⟩
      obtain ⟨Ag, cg, rfl, hcg⟩ := hGf
      have hB2 : Below w.heap.size w (wr.alloc (.cells #[.int .i64 ok, .int .i64 oo, .int .i64 ol, .int .i64 oh, .bool oa] 28)) := HB.out.alloc hbs _
      have hT2 : Tab (wr.alloc (.cells #[.int .i64 ok, .int .i64 oo, .int .i64 ol, .int .i64 oh, .bool oa] 28)) w.heap.size vt ((asks os i).map Op5.tk) := HT.out.below ((Below.refl _ _).alloc (Nat.le_refl _) _)
      have hG2 : Given (wr.alloc (.cells #[.int .i64 ok, .int .i64 oo, .int .i64 ol, .int .i64 oh, .bool oa] 28)) w.heap.size (.slice Ag (asks os i).length cg) (asks os i) := World.ownsRow.alloc HG.out _
      have hbox := heap_alloc_new wr (.cells #[.int .i64 ok, .int .i64 oo, .int .i64 ol, .int .i64 oh, .bool oa] 28)
      have hsz2 : (wr.alloc (.cells #[.int .i64 ok, .int .i64 oo, .int .i64 ol, .int .i64 oh, .bool oa] 28)).heap.size = wr.heap.size + 1 := by simp
      by_cases hok : Op5.ok ⟨ok, oo, ol, oh, oa⟩ = true
      · have hs2 : asks os (i + 1) = asks os i ++ [⟨ok, oo, ol, oh, oa⟩] := by rw [HS.out, if_pos hok]
        have hv : (0 ≤ oo) ∧ oo ≤ 15 ∧ 0 ≤ ol ∧ ol ≤ oh := by simpa [Op5.ok] using hok
        have HS2 := Lib.hid hs2
        have HV := Lib.hid hv
        have HB2 := Lib.hid hB2
        have HT2 := Lib.hid hT2
        have HG2 := Lib.hid hG2
        have HBOX := Lib.hid hbox
        have HSZ := Lib.hid hsz2
        clear hs2 hok hv hB2 hT2 hG2 hbox hsz2
        go_wp2_with (fail)
        refine (Ask_ok w.heap.size vt oo ol oh oa _ _ HT2.out (by simp; omega) HV.out.1 HV.out.2.1 HV.out.2.2.1 HV.out.2.2.2).mono ?_
        rintro e w1 ⟨rfl, v1, hT3, hO3, hat3⟩
        have hlenm : ((asks os i).map Op5.tk).length = (asks os i).length := by simp
        rw [hlenm]
        have hrow_ne : ∀ x ∈ w.heap.size :: vt.ownBlock.toList, x < wr.heap.size := by
          intro x hx
          simp only [List.mem_cons, Option.mem_toList] at hx
          rcases hx with rfl | hx
          · exact HT.out.lt
          · exact (HT.out.2.lt x hx).2
        have HBOX1 : Hid (w1.heap[wr.heap.size]? = some (.cells #[.int .i64 ok, .int .i64 oo, .int .i64 ol, .int .i64 oh, .bool oa] 28 (0, 0))) := by
          show _ = _
          rw [hO3.block wr.heap.size (by rw [HSZ.out]; omega) (fun hm => by have := hrow_ne _ hm; omega)]
          exact HBOX.out
        have y0 := cell_of_heap HBOX1.out 0
        have y1 := cell_of_heap HBOX1.out 1
        have y2 := cell_of_heap HBOX1.out 2
        have y3 := cell_of_heap HBOX1.out 3
        have y4 := cell_of_heap HBOX1.out 4
        have HG3 : Hid (Given w1 w.heap.size (.slice Ag (asks os i).length cg) (asks os i)) := own_kept HG2.out hO3 (fun k hk hm => by
          simp only [List.mem_cons, Option.mem_toList] at hm
          rcases hm with rfl | hm
          · exact own_blk HG2.out HT2.out.1 (by decide) hk
          · exact own_ne HG2.out HT2.out.2 (by decide) k hk hm)
        have HB3 : Hid (Below w.heap.size w w1) := Only.below HB2.out hO3 HB2.out.size (by
          intro x hx
          simp only [List.mem_cons, Option.mem_toList] at hx
          rcases hx with rfl | hx
          · exact Nat.le_refl _
          · have := (HT2.out.2.lt x hx).1; omega)
        have hs3 : wr.heap.size < w1.heap.size := by have := hO3.size; rw [HSZ.out] at this; omega
        have HT3 := Lib.hid hT3
        clear hT3 hO3 hat3 hlenm hrow_ne
        simp only [List.getElem?_toArray, List.getElem?_cons_zero, List.getElem?_cons_succ] at y0 y1 y2 y3 y4
        go_wp2_with (at_builtin; refine wpList_append_own_at _ rfl (.tmp 47) (.tmp 49) 22 rfl w.heap.size 28 i0 _ 5 40 Try.underlying22 hi0 hz0 hz1 hz2 rfl (by omega) _ (asks os i).length (opcs (asks os i)) rfl (World.ownsRow.alloc HG3.out _) ⟨w1.heap.size, 0, none⟩ 1 1 (Op5.cells ⟨ok, oo, ol, oh, oa⟩) rfl rfl (cells_new w1 (Op5.cells ⟨ok, oo, ol, oh, oa⟩) 28) (opcells_one _) (by unfold maxLen; omega) (by omega) (by simp; omega) ?_; intro v' w2 hown2 hg2 _ hat; have HO2 := Lib.hid hown2; have HG4 := Lib.hid hg2; clear hown2 hg2 hat)
        go_roundg (os.length - (i + 1))
        case measure => have := HQ.out; omega
        case rel =>
          have hO4 : Only (Value.slice Ag (asks os i).length cg).ownBlock.toList w1 w2 := (Only.of_below ((Below.refl _ _).alloc (Nat.le_refl _) _) _).trans (Only.grown HG4.out) (fun x hx => .inl hx)
          refine ⟨i + 1, by omega, by omega, by go_num, rfl, ?_, ⟨v1, ?_⟩, ?_⟩
          · have hl2 : (asks os i ++ [(⟨ok, oo, ol, oh, oa⟩ : Op5)]).length = (asks os i).length + 1 := by simp
            rw [HS2.out]
            unfold Given
            rw [hl2, show opcs (asks os i ++ [(⟨ok, oo, ol, oh, oa⟩ : Op5)]) = opcs (asks os i) ++ Op5.cells ⟨ok, oo, ol, oh, oa⟩ from by simp [opcs]]
            exact HO2.out
          · rw [HS2.out, List.map_append]
            refine HT3.out.kept hO4 ?_ ?_
            · intro hm
              rw [Option.mem_toList] at hm
              exact own_blk HG3.out HT3.out.1 (by decide) hm
            · intro k hk hm
              rw [Option.mem_toList] at hm
              exact own_ne HT3.out.2 HG3.out (by decide) k hk hm
          · exact Only.below HB3.out hO4 HB3.out.size (fun x hx => by rw [Option.mem_toList] at hx; exact (HG3.out.lt x hx).1)
      · have hs2 : asks os (i + 1) = asks os i := by rw [HS.out, if_neg hok, List.append_nil]
        have hv : oo < 0 ∨ 15 < oo ∨ ol < 0 ∨ oh < ol := by
          simp [Op5.ok] at hok
          omega
        have HS2 := Lib.hid hs2
        have HV := Lib.hid hv
        have HB2 := Lib.hid hB2
        have HT2 := Lib.hid hT2
        have HG2 := Lib.hid hG2
        clear hs2 hok hv hB2 hT2 hG2 hbox hsz2
        go_wp2_with (fail)
        refine (Ask_bad w.heap.size oo ol oh oa _ HV.out).mono ?_
        rintro e w1 ⟨rfl, rfl⟩
        go_wp2_with (fail)
        go_roundg (os.length - (i + 1))
        case measure => have := HQ.out; omega
        case rel => exact ⟨i + 1, by omega, by omega, by go_num, rfl, by rw [HS2.out]; exact HG2.out, ⟨vt, by rw [HS2.out]; exact HT2.out⟩, HB2.out⟩
    · go_wp2_with (fail)
      all_goals
        have e1 : asks os i = asks os 60 := by
          unfold asks
          by_cases h60 : i = 60
          · rw [h60]
          · rw [List.take_of_length_le (by omega), List.take_of_length_le (by omega)]
        go_ret2
        exact ⟨_, vt, rfl, by rw [← e1]; exact HT.out, by rw [← e1]; exact HG.out, HB.out⟩
end Go.Proofs.Ytgegkebbbpapiaa.Dlm
