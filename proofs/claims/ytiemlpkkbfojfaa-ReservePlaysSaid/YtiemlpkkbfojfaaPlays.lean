/- The walk of ReservePlays. -/
import Derived.Test.YtiemlpkkbfojfaaOpIn
import Derived.Deep.LoopGhost
import Derived.Deep.DeepCutAuto
import Derived.Deep.RegionHeld

namespace Go.Proofs.Ytiemlpkkbfojfaa.Res
open Go.RowKit
set_option linter.unusedVariables false
set_option linter.unusedSimpArgs false
theorem in_cells {w w' : World} {A : Option Addr} {os : List OpR} (h : InOps w A os) (hb : Below w.heap.size w w') {i : Nat} {o : OpR} (ho : os[i]? = some o) :
    ∃ b off, A = some ⟨b, off, none⟩ ∧ b < w.heap.size ∧ w'.cell? ⟨b, off + i * 5, none⟩ = some (.int .i64 o.kd) ∧ w'.cell? ⟨b, off + i * 5 + 1, none⟩ = some (.int .i64 o.ini) ∧ w'.cell? ⟨b, off + i * 5 + 2, none⟩ = some (.int .i64 o.rs) ∧
      w'.cell? ⟨b, off + i * 5 + 3, none⟩ = some (.int .u64 o.ky) ∧ w'.cell? ⟨b, off + i * 5 + 4, none⟩ = some (.bool o.kp) := by
  rcases h with h | ⟨b, off, hA, hbl, h⟩
  · rw [h] at ho; simp at ho
  · refine ⟨b, off, hA, hbl, ?_⟩
    simp only [bcell hb b _ hbl]
    exact h i o ho
theorem bdrew {n : Nat} {w w' : World} (h : Below n w w') : Below n w w'.drew := h.drew
theorem exec_load_row {P : Program} {o : Oper} {a : Act} {w : World} (ty : TypeId) (x : Operand) (ho : o.op = .load ty x)
    (g : Nat) (hx : a.eval x = .pointer (some ⟨g, 0, none⟩)) (t : TypeId) (cs : Array Value) (fr : Nat × Nat) (d : TypeDesc) (hg : w.heap[g]? = some (.cells cs t fr))
    (hu : P.underlying ty = some d) (hd : (match d with | .struct _ | .array _ _ => true | _ => false) = true) (hi : (P.info? ty).map (·.size) = some cs.size) :
    (execOp a.eval o).run P w = .ok (.value (.agg cs)) w := by
  unfold execOp
  simp only [ho, hx, Instr.loadAt, Instr.sureAddr, Sem.run_bind, Sem.run_pure, Result.andThen_ok, run_loadVar_row w g t ty cs fr d hg hu hd hi]
theorem box_at {w w2 w4 : World} {g : Nat} {d : Dk} (hD : HasD w2 g d) (hB : Below w.heap.size w w2) (hg : w.heap.size ≤ g) {old : Array Value}
    (h : (w2.alloc (.cells old 41)).setRow w2.heap.size Dk.new.cells = w4) : HasR w4 w2.heap.size Dk.new ∧ HasD w4 g d ∧ Below w.heap.size w w4 := by
  subst h
  have hlt := hD.lt
  have h2 := hD.kept ((Only.refl [] w2).alloc_ (.cells old 41)) (by simp)
  have h3 := Only.below hB ((Only.refl [] w2).alloc_ (.cells old 41)) (by omega) (by simp)
  exact ⟨⟨heap_setRow (heap_alloc_new w2 _) _, rfl⟩, h2.kept (Only.setRow _) (by simp; omega), Only.below h3 (Only.setRow _) (by show w.heap.size ≤ (w2.heap.push _).size; simp; omega) (by simp; omega)⟩
set_option maxRecDepth 100000 in
set_option maxHeartbeats 8000000 in
theorem plays_walk (A : Option Addr) (cap : Nat) (os : List OpR) (w : World) (hin : InOps w A os) (hlc : os.length ≤ cap) (hcm : cap ≤ maxLen) :
    Calls Try.prog 5 #[.slice A os.length cap] w fun e w' => e = .returned (.bool true) ∧ Below w.heap.size w w' := by
  have HIN := Lib.hid hin
  clear hin
  have hml : os.length ≤ 9223372036854775807 := by unfold maxLen at hcm; omega
  obtain ⟨fs, hu⟩ := u41
  have HU := Lib.hid hu
  clear hu
  go_enter Try.func5, Try.ntmps5
  go_wp2_with (fail)
  refine (awake_any _).mono ?_
  rintro e w1 ⟨rfl, hb1⟩
  have HB1 := Lib.hid hb1
  have hs1 := hb1.size
  clear hb1
  go_wp2_with (fail)
  refine (new_any _).mono ?_
  rintro e w2 ⟨rfl, hw2⟩
  have hD0 := hasD_new w1
  rw [← hw2] at hD0
  have HD0 := Lib.hid hD0
  have HB2 := Lib.hid (show Below w.heap.size w w2 by rw [hw2]; exact HB1.out.alloc hs1 _)
  clear hw2 hD0
  generalize hg : w1.heap.size = g at *
  clear hg
  have hgw : w.heap.size ≤ g := hs1
  clear hs1
  obtain ⟨wi, hwi⟩ : ∃ wi : World, wi = w := ⟨_, rfl⟩
  go_wp2_with (first | (refine wpList_store_row rfl 41 _ _ rfl w2.heap.size Dk.new.cells rfl rfl 41 _ (heap_alloc_new w2 _) (info41 rfl) rfl (one41 _) ?_))
  generalize hw4 : World.setRow _ _ _ = w4
  obtain ⟨T4, TD, TB⟩ := box_at HD0.out HB2.out hgw hw4
  have hlt4 := HD0.out.lt
  clear hw4 HD0 HB2
  have HR4 := Lib.hid T4
  have HD4 := Lib.hid TD
  have HB4 := Lib.hid TB
  clear T4 TD TB
  generalize w2.heap.size = b4 at *
  go_loopg [5] (os.length) (fun q v5 wr => ∃ i : Nat, i ≤ os.length ∧ v5 = .int .i64 i ∧ q = os.length - i ∧ (∃ d, HasD wr g d ∧ HasR wr b4 d ∧ d.fine) ∧ Below w.heap.size w wr)
  case atStart => exact ⟨0, by omega, rfl, rfl, ⟨_, HD4.out, HR4.out, fine_new⟩, HB4.out⟩
  case round =>
    obtain ⟨i, hi, rfl, hq, ⟨d, hD, hR, hfine⟩, hb⟩ := hrel
    have HF := Lib.hid hfine
    have HQ := Lib.hid hq
    have HD := Lib.hid hD
    have HR := Lib.hid hR
    have HB := Lib.hid hb
    have hgr := hD.lt
    have hbr := hR.lt
    clear hq hD hR hb hfine
    by_cases hlt : i < os.length
    · obtain ⟨o, ho⟩ : ∃ o, os[i]? = some o := ⟨_, List.getElem?_eq_getElem hlt⟩
      obtain ⟨b, off, rfl, hbl, -⟩ := in_cells HIN.out HB.out ho
      have HC := Lib.hid (fun (W : World) (hW : Below w.heap.size w W) => in_cells HIN.out hW ho)
      clear ho
      go_upto_region 8 with (fail)
      go_cut [6, 7, 8] (fun v6 v7 v8 wx => v6 = .int .i64 (d.runE o) ∧ v7 = .int .i64 (d.runE o) ∧ ∃ b8, v8 = .pointer (some ⟨b8, 0, none⟩) ∧ b4 < b8 ∧ HasD wx g (d.run o) ∧ HasR wx b8 (d.run o) ∧ HasR wx b4 d ∧ Below w.heap.size w wx)
      case first =>
        as_aux_lemma =>
          clear HD4 HB4 HR4 HIN
          have HL : Hid ((d.run o).keys.length = 16) := Lib.hid (fine_run HF.out o).len
          have HD8 : Hid (HasD wr.drew g d) := Lib.hid (HD.out.kept (Only.refl [] wr).drew_ (by simp))
          refine wp_region_held_drew (S := fun w' => HasR w' b4 d ∧ Below w.heap.size w w') (by kernel_rfl) ⟨HR.out.drew_, bdrew HB.out⟩ (fun hS => ?_)
          refine wpAnyH_take (i := 0) (v := ?_) rfl (by kernel_rfl) (by kernel_rfl) (by kernel_rfl) (fun _ _ _ h => h) (Or.inl ⟨by rfl, ?_⟩) hS ?_
          rotate_left
          · intro w' hSw; go_simp; try rfl
          try simp only [Act.put, List.getElem_toArray, List.getElem_cons_succ, List.getElem_cons_zero, List.setIfInBounds_toArray, List.set_cons_zero, List.set_cons_succ]
          refine wpAnyH_take (i := 1) (v := .agg d.cells) rfl (by kernel_rfl) (by kernel_rfl) (by kernel_rfl) (fun _ _ _ h => h) (Or.inl ⟨by rfl, ?_⟩) hS ?_
          · intro w' hSw
            exact exec_load_row 41 _ rfl b4 rfl 41 _ (0, 0) _ hSw.1.heap HU.out rfl (info41 hSw.1.len)
          try simp only [Act.put, List.getElem_toArray, List.getElem_cons_succ, List.getElem_cons_zero, List.setIfInBounds_toArray, List.set_cons_zero, List.set_cons_succ]
          refine wpAnyH_take (i := 2) (v := ?_) rfl (by kernel_rfl) (by kernel_rfl) (by kernel_rfl) (fun _ _ _ h => h) (Or.inl ⟨by rfl, ?_⟩) hS ?_
          rotate_left
          · intro w' hSw; go_simp; try rfl
          try simp only [Act.put, List.getElem_toArray, List.getElem_cons_succ, List.getElem_cons_zero, List.setIfInBounds_toArray, List.set_cons_zero, List.set_cons_succ]
          refine wpAnyH_take (i := 3) (v := ?_) rfl (by kernel_rfl) (by kernel_rfl) (by kernel_rfl) (fun _ _ _ h => h) (Or.inl ⟨by rfl, ?_⟩) hS ?_
          rotate_left
          · intro w' hSw; go_simp; try rfl
          try simp only [Act.put, List.getElem_toArray, List.getElem_cons_succ, List.getElem_cons_zero, List.setIfInBounds_toArray, List.set_cons_zero, List.set_cons_succ]
          refine wpAnyH_take (i := 4) (v := ?_) rfl (by kernel_rfl) (by kernel_rfl) (by kernel_rfl) (fun _ _ _ h => h) (Or.inl ⟨by rfl, ?_⟩) hS ?_
          rotate_left
          · intro w' hSw; go_simp; try rfl
          try simp only [Act.put, List.getElem_toArray, List.getElem_cons_succ, List.getElem_cons_zero, List.setIfInBounds_toArray, List.set_cons_zero, List.set_cons_succ]
          refine wpAnyH_take (i := 5) (v := .agg #[.int .i64 o.kd, .int .i64 o.ini, .int .i64 o.rs, .int .u64 o.ky, .bool o.kp]) rfl (by kernel_rfl) (by kernel_rfl) (by kernel_rfl) (fun _ _ _ h => h) (Or.inl ⟨by rfl, ?_⟩) hS ?_
          · intro w' hSw
            obtain ⟨b', off', hA, hbl', c0, c1, c2, c3, c4⟩ := HC.out w' hSw.2
            cases hA
            go_simp
          try simp only [Act.put, List.getElem_toArray, List.getElem_cons_succ, List.getElem_cons_zero, List.setIfInBounds_toArray, List.set_cons_zero, List.set_cons_succ]
          refine wpAnyH_ready (rs := [6, 11]) (by kernel_rfl) (by simp) ?_
          refine AllReadyH.cons rfl (fun K hK => ?_) ?_
          · go_simp
            refine (do_any g d d o.kd o.ini o.rs o.ky o.kp _ HD8.out hS.1.len (fun _ => HF.out.holder)).mono ?_
            rintro e w3 ⟨rfl, hd3, ho3⟩
            have HR3 := Lib.hid (hS.1.kept ho3 (by simp; omega))
            have HB3 := Lib.hid (Only.below hS.2 ho3 (by have := HD8.out.lt; omega) (by simp; omega))
            have HD3 := Lib.hid hd3
            have hs3 : wr.heap.size ≤ w3.heap.size := ho3.size
            clear hd3 ho3
            go_wp2_with (fail)
            refine hK.out _ _ ⟨HR3.out, HB3.out⟩ (fun hS => ?_)
            clear hK K
            try simp only [Act.put, List.getElem_toArray, List.getElem_cons_succ, List.getElem_cons_zero, List.setIfInBounds_toArray, List.set_cons_zero, List.set_cons_succ]
            refine wpAnyH_take (i := 7) (v := ?_) rfl (by kernel_rfl) (by kernel_rfl) (by kernel_rfl) (fun _ _ _ h => h) (Or.inl ⟨by rfl, ?_⟩) hS ?_
            rotate_left
            · intro w' hSw; go_simp; try rfl
            try simp only [Act.put, List.getElem_toArray, List.getElem_cons_succ, List.getElem_cons_zero, List.setIfInBounds_toArray, List.set_cons_zero, List.set_cons_succ]
            refine wpAnyH_take (i := 8) (v := ?_) rfl (by kernel_rfl) (by kernel_rfl) (by kernel_rfl) (fun _ _ _ h => h) (Or.inl ⟨by rfl, ?_⟩) hS ?_
            rotate_left
            · intro w' hSw; go_simp; try rfl
            try simp only [Act.put, List.getElem_toArray, List.getElem_cons_succ, List.getElem_cons_zero, List.setIfInBounds_toArray, List.set_cons_zero, List.set_cons_succ]
            refine wpAnyH_take (i := 9) (v := ?_) rfl (by kernel_rfl) (by kernel_rfl) (by kernel_rfl) (fun _ _ _ h => h) (Or.inl ⟨by rfl, ?_⟩) hS ?_
            rotate_left
            · intro w' hSw; go_simp; try rfl
            try simp only [Act.put, List.getElem_toArray, List.getElem_cons_succ, List.getElem_cons_zero, List.setIfInBounds_toArray, List.set_cons_zero, List.set_cons_succ]
            refine wpAnyH_take (i := 10) (v := ?_) rfl (by kernel_rfl) (by kernel_rfl) (by kernel_rfl) (fun _ _ _ h => h) (Or.inl ⟨by rfl, ?_⟩) hS ?_
            rotate_left
            · intro w' hSw; go_simp; try rfl
            try simp only [Act.put, List.getElem_toArray, List.getElem_cons_succ, List.getElem_cons_zero, List.setIfInBounds_toArray, List.set_cons_zero, List.set_cons_succ]
            refine wpAnyH_ready (rs := [11]) (by kernel_rfl) (by simp) ?_
            refine AllReadyH.cons rfl (fun K hK => ?_) AllReadyH.nil
            have hS4 : ∀ old : Array Value, HasR (w3.alloc (.cells old 41)) b4 d ∧ Below w.heap.size w (w3.alloc (.cells old 41)) := fun old => ⟨HR3.out.kept ((Only.refl [] _).alloc_ _) (by simp), HB3.out.alloc (by omega) _⟩
            go_simp
            refine hK.out _ _ (hS4 _) (fun hS => ?_)
            clear hK K
            try simp only [Act.put, List.getElem_toArray, List.getElem_cons_succ, List.getElem_cons_zero, List.setIfInBounds_toArray, List.set_cons_zero, List.set_cons_succ]
            refine wpAnyH_take (i := 12) (v := ?_) rfl (by kernel_rfl) (by kernel_rfl) (by kernel_rfl) (fun _ _ _ h => h) (Or.inl ⟨by rfl, ?_⟩) hS ?_
            rotate_left
            · intro w' hSw; go_simp; try rfl
            try simp only [Act.put, List.getElem_toArray, List.getElem_cons_succ, List.getElem_cons_zero, List.setIfInBounds_toArray, List.set_cons_zero, List.set_cons_succ]
            refine wpAnyH_take (i := 13) (v := ?_) rfl (by kernel_rfl) (by kernel_rfl) (by kernel_rfl) (fun _ _ _ h => h) (Or.inl ⟨by rfl, ?_⟩) hS ?_
            rotate_left
            · intro w' hSw; go_simp; try rfl
            try simp only [Act.put, List.getElem_toArray, List.getElem_cons_succ, List.getElem_cons_zero, List.setIfInBounds_toArray, List.set_cons_zero, List.set_cons_succ]
            refine wpAnyH_ready (rs := [14]) (by kernel_rfl) (by simp) ?_
            refine AllReadyH.cons rfl (fun K hK => ?_) AllReadyH.nil
            rw [if_pos (by rfl)]
            refine wp_store_row 41 _ _ rfl w3.heap.size (d.run o).cells rfl rfl 41 _ (heap_alloc_new w3 _) (info41 HL.out) (by rw [cells_size HL.out]; rfl) (one41 _) ?_
            obtain ⟨S1, S2⟩ := hS
            have hS5 : HasR (World.setRow (World.alloc _ _) w3.heap.size (d.run o).cells) b4 d ∧ Below w.heap.size w (World.setRow (World.alloc _ _) w3.heap.size (d.run o).cells) := ⟨S1.kept (Only.setRow _) (by simp; omega), Only.below S2 (Only.setRow _) (by show w.heap.size ≤ (w3.heap.push _).size; simp; omega) (by simp; omega)⟩
            refine hK.out _ _ hS5 (fun hS => ?_)
            clear hK K
            refine wpAnyH_done (by kernel_rfl) ?_ _
            go_wp2_with (fail)
            go_meet
            exact ⟨rfl, rfl, w3.heap.size, rfl, by omega, (HD3.out.kept ((Only.refl [] _).alloc_ _) (by simp)).kept (Only.setRow _) (by simp; omega), ⟨heap_setRow (heap_alloc_new w3 _) _, HL.out⟩, hS5.1, hS5.2⟩
          · refine AllReadyH.cons rfl (fun K hK => ?_) AllReadyH.nil
            have hS4 : ∀ old : Array Value, HasR (wr.alloc (.cells old 41)).drew b4 d ∧ Below w.heap.size w (wr.alloc (.cells old 41)).drew := fun old => ⟨(HR.out.kept ((Only.refl [] _).alloc_ _) (by simp)).drew_, bdrew (HB.out.alloc (by omega) _)⟩
            have hD4 : ∀ old : Array Value, HasD (wr.alloc (.cells old 41)).drew g d := fun old => HD.out.kept ((Only.refl [] _).alloc_ _).drew_ (by simp)
            have hX4 : ∀ old : Array Value, (wr.alloc (.cells old 41)).drew.heap[wr.heap.size]? = some (.cells old 41 (0, 0)) := fun old => heap_alloc_new wr _
            go_simp
            refine hK.out _ _ (hS4 _) (fun hS => ?_)
            clear hK K
            try simp only [Act.put, List.getElem_toArray, List.getElem_cons_succ, List.getElem_cons_zero, List.setIfInBounds_toArray, List.set_cons_zero, List.set_cons_succ]
            change wpAnyH _ _ _ _ _ _ _ _ (World.drew (World.alloc wr (.cells Dk.new.cells 41)))
            clear hS
            have hS := hS4 Dk.new.cells
            have HD4 := Lib.hid (hD4 Dk.new.cells)
            have HX4 := Lib.hid (hX4 Dk.new.cells)
            have HZ4 : Hid (Dk.new.cells.size = (d.run o).cells.size) := Lib.hid (by rw [cells_size HL.out]; rfl)
            clear hS4 hD4 hX4 HD8
            generalize hw4 : World.drew _ = w4 at hS HD4 HX4 ⊢
            clear hw4
            generalize hb8 : wr.heap.size = b8 at *
            refine wpAnyH_ready (rs := [6]) (by kernel_rfl) (by simp) ?_
            refine AllReadyH.cons rfl (fun K hK => ?_) AllReadyH.nil
            go_simp
            refine (do_any g d d o.kd o.ini o.rs o.ky o.kp _ HD4.out hS.1.len (fun _ => HF.out.holder)).mono ?_
            rintro e w3 ⟨rfl, hd3, ho3⟩
            have HR3 := Lib.hid (hS.1.kept ho3 (by simp; omega))
            have HB3 := Lib.hid (Only.below hS.2 ho3 (by have := HD4.out.lt; omega) (by simp; omega))
            have HD3 := Lib.hid hd3
            have HX3 := Lib.hid ((ho3.block b8 (lt_of_heap HX4.out) (by simp; omega)).trans HX4.out)
            clear hd3 ho3
            go_wp2_with (fail)
            refine hK.out _ _ ⟨HR3.out, HB3.out⟩ (fun hS => ?_)
            clear hK K
            try simp only [Act.put, List.getElem_toArray, List.getElem_cons_succ, List.getElem_cons_zero, List.setIfInBounds_toArray, List.set_cons_zero, List.set_cons_succ]
            refine wpAnyH_take (i := 7) (v := ?_) rfl (by kernel_rfl) (by kernel_rfl) (by kernel_rfl) (fun _ _ _ h => h) (Or.inl ⟨by rfl, ?_⟩) hS ?_
            rotate_left
            · intro w' hSw; go_simp; try rfl
            try simp only [Act.put, List.getElem_toArray, List.getElem_cons_succ, List.getElem_cons_zero, List.setIfInBounds_toArray, List.set_cons_zero, List.set_cons_succ]
            refine wpAnyH_take (i := 8) (v := ?_) rfl (by kernel_rfl) (by kernel_rfl) (by kernel_rfl) (fun _ _ _ h => h) (Or.inl ⟨by rfl, ?_⟩) hS ?_
            rotate_left
            · intro w' hSw; go_simp; try rfl
            try simp only [Act.put, List.getElem_toArray, List.getElem_cons_succ, List.getElem_cons_zero, List.setIfInBounds_toArray, List.set_cons_zero, List.set_cons_succ]
            refine wpAnyH_take (i := 9) (v := ?_) rfl (by kernel_rfl) (by kernel_rfl) (by kernel_rfl) (fun _ _ _ h => h) (Or.inl ⟨by rfl, ?_⟩) hS ?_
            rotate_left
            · intro w' hSw; go_simp; try rfl
            try simp only [Act.put, List.getElem_toArray, List.getElem_cons_succ, List.getElem_cons_zero, List.setIfInBounds_toArray, List.set_cons_zero, List.set_cons_succ]
            refine wpAnyH_take (i := 10) (v := ?_) rfl (by kernel_rfl) (by kernel_rfl) (by kernel_rfl) (fun _ _ _ h => h) (Or.inl ⟨by rfl, ?_⟩) hS ?_
            rotate_left
            · intro w' hSw; go_simp; try rfl
            try simp only [Act.put, List.getElem_toArray, List.getElem_cons_succ, List.getElem_cons_zero, List.setIfInBounds_toArray, List.set_cons_zero, List.set_cons_succ]
            refine wpAnyH_take (i := 12) (v := ?_) rfl (by kernel_rfl) (by kernel_rfl) (by kernel_rfl) (fun _ _ _ h => h) (Or.inl ⟨by rfl, ?_⟩) hS ?_
            rotate_left
            · intro w' hSw; go_simp; try rfl
            try simp only [Act.put, List.getElem_toArray, List.getElem_cons_succ, List.getElem_cons_zero, List.setIfInBounds_toArray, List.set_cons_zero, List.set_cons_succ]
            refine wpAnyH_take (i := 13) (v := ?_) rfl (by kernel_rfl) (by kernel_rfl) (by kernel_rfl) (fun _ _ _ h => h) (Or.inl ⟨by rfl, ?_⟩) hS ?_
            rotate_left
            · intro w' hSw; go_simp; try rfl
            try simp only [Act.put, List.getElem_toArray, List.getElem_cons_succ, List.getElem_cons_zero, List.setIfInBounds_toArray, List.set_cons_zero, List.set_cons_succ]
            refine wpAnyH_ready (rs := [14]) (by kernel_rfl) (by simp) ?_
            refine AllReadyH.cons rfl (fun K hK => ?_) AllReadyH.nil
            rw [if_pos (by rfl)]
            refine wp_store_row 41 _ _ rfl b8 (d.run o).cells rfl rfl 41 _ HX3.out (info41 HL.out) HZ4.out (one41 _) ?_
            obtain ⟨S1, S2⟩ := hS
            have hS5 : HasR (World.setRow w3 b8 (d.run o).cells) b4 d ∧ Below w.heap.size w (World.setRow w3 b8 (d.run o).cells) := ⟨S1.kept (Only.setRow _) (by simp; omega), Only.below S2 (Only.setRow _) (by have := HD3.out.lt; omega) (by simp; omega)⟩
            refine hK.out _ _ hS5 (fun hS => ?_)
            clear hK K
            refine wpAnyH_done (by kernel_rfl) ?_ _
            go_wp2_with (fail)
            go_meet
            exact ⟨rfl, rfl, b8, rfl, by omega, HD3.out.kept (Only.setRow _) (by simp; omega), ⟨heap_setRow HX3.out _, HL.out⟩, hS5.1, hS5.2⟩
      case rest =>
        as_aux_lemma =>
          obtain ⟨rfl, rfl, b8, rfl, hb48, hD, hX, hR, hB⟩ := hcut
          have HF2 := Lib.hid (fine_run HF.out o)
          have HX8 := Lib.hid hX
          have HR8 := Lib.hid hR
          have T9 : HasD (wc.setRow b4 (d.run o).cells) g (d.run o) ∧ HasR (wc.setRow b4 (d.run o).cells) b4 (d.run o) ∧ Below w.heap.size w (wc.setRow b4 (d.run o).cells) :=
            ⟨hD.kept (Only.setRow _) (by simp; omega), ⟨heap_setRow hR.heap _, hX.len⟩, Only.below hB (Only.setRow _) (by have := hD.lt; omega) (by simp; omega)⟩
          clear hD hX hR hB HD HR HB HF HC
          generalize d.runE o = e8 at *
          generalize d.run o = d2 at *
          go_upto_region 10 with (first | (refine wpList_load_row rfl 41 _ rfl b8 rfl 41 _ (0, 0) _ HX8.out.heap HU.out rfl (info41 HX8.out.len) ?_) | (refine wpList_store_row rfl 41 _ _ rfl b4 d2.cells rfl rfl 41 _ HR8.out.heap (info41 HX8.out.len) (by rw [cells_size HX8.out.len, cells_size HR8.out.len]) (one41 _) ?_))
          generalize World.setRow _ _ _ = w9 at *
          have HD9 := Lib.hid T9.1
          have HR9 := Lib.hid T9.2.1
          have HB9 := Lib.hid T9.2.2
          clear T9 HX8 HR8
          go_wp2_with (fail)
          refine (Holder_any g d2 _ HD9.out).mono ?_
          rintro e w10 ⟨rfl, hb10⟩
          have HDa := Lib.hid (HD9.out.below hb10)
          have HRa := Lib.hid (HR9.out.kept (Only.of_below hb10 []) (by simp))
          have HBa := Lib.hid (HB9.out.trans (hb10.mono (by have := HD9.out.lt; omega)))
          clear hb10 HD9 HR9 HB9
          have c16 := HRa.out.holderCell
          have c17 := HRa.out.kindCell
          go_upto_region 11 with (fail)
          go_cut [84] (fun v84 wx => v84 = .bool false ∧ w10 = wx)
          case first =>
            as_aux_lemma =>
              have t0 : (e8 != e8) = false := bne_self_eq_false e8
              by_cases hk : d2.kind = 0
              · have t1 : (d2.hE == 10) = true := by unfold Dk.hE; rw [if_pos hk]; rfl
                have t2 : (d2.kind == 0) = true := by rw [hk]; rfl
                have t3 : (d2.hE == 0) = false := by unfold Dk.hE; rw [if_pos hk]; rfl
                have t4 : (d2.hE != 0) = true := by unfold Dk.hE; rw [if_pos hk]; rfl
                have t5 : (d2.hE != 10) = false := by unfold Dk.hE; rw [if_pos hk]; rfl
                have t6 : (d2.hH != 0) = false := by unfold Dk.hH; rw [if_pos hk]; rfl
                have t7 : (d2.kind != 0) = false := by rw [hk]; rfl
                clear hk
                go_wp2_with (fail)
                go_meet
                exact ⟨rfl, rfl⟩
              · have t1 : (d2.hE == 10) = false := by unfold Dk.hE; rw [if_neg hk]; rfl
                have t2 : (d2.kind == 0) = false := bF hk
                have t3 : (d2.hE == 0) = true := by unfold Dk.hE; rw [if_neg hk]; rfl
                have t4 : (d2.hE != 0) = false := by unfold Dk.hE; rw [if_neg hk]; rfl
                have t6 : (d2.hH != d2.holder) = false := by unfold Dk.hH; rw [if_neg hk]; exact bne_self_eq_false _
                have t7 : (d2.kind != d2.kind) = false := bne_self_eq_false _
                clear hk
                go_wp2_with (fail)
                go_meet
                exact ⟨rfl, rfl⟩
          case rest =>
            as_aux_lemma =>
              obtain ⟨rfl, rfl⟩ := hcut
              clear c16 c17
              obtain ⟨wo, hwo⟩ : ∃ wo : World, wo = wr := ⟨_, rfl⟩
              clear hwo
              go_wp2_with (fail)
              go_loopg [12] (18) (fun q v12 wr => ∃ j : Nat, j ≤ 18 ∧ v12 = .int .i64 ((j : Int) - 1) ∧ q = 18 - j ∧ HasD wr g d2 ∧ HasR wr b4 d2 ∧ Below w.heap.size w wr)
              case atStart => exact ⟨0, by omega, rfl, rfl, HDa.out, HRa.out, HBa.out⟩
              case round =>
                obtain ⟨j, hj, rfl, hq, hD, hR, hB⟩ := hrel
                have HQ6 := Lib.hid hq
                have HDr := Lib.hid hD
                have HRr := Lib.hid hR
                have HBr := Lib.hid hB
                have hg6 := hD.lt
                clear hq hD hR hB
                have KEY0 : ∀ W, HasD W g d2 → Calls Try.prog 16 #[.pointer (some ⟨g, 0, none⟩), .int .i64 ((j : Int) - 1)] W fun e w' => e = .returned (.int .u64 (d2.keyOf ((j : Int) - 1))) ∧ w' = W := fun W h => Key_any g d2 _ W h
                have MAY0 : ∀ b W, HasD W g d2 → Calls Try.prog 14 #[.pointer (some ⟨g, 0, none⟩), .int .i64 ((j : Int) - 1), .bool b] W fun e w' => e = .returned (.bool (d2.may ((j : Int) - 1) b)) ∧ w' = W := fun b W h => May_any g d2 _ b W h
                have RMAY0 : ∀ b W, Calls Try.prog 19 #[.agg d2.cells, .int .i64 ((j : Int) - 1), .bool b] W fun e w' => e = .returned (.bool (d2.may ((j : Int) - 1) b)) ∧ Below W.heap.size W w' := fun b W => rMay_any d2 _ b W HRr.out.len
                by_cases hlj : j < 18
                · obtain ⟨n, hn⟩ : ∃ n : Int, n = (j : Int) - 1 := ⟨_, rfl⟩
                  have hne : (j : Int) = n + 1 := by omega
                  rw [← hn] at KEY0 MAY0 RMAY0 ⊢
                  have hle : n ≤ 16 := by omega
                  have HN := Lib.hid hne
                  generalize hM : (fun b => d2.may n b) = M
                  have hM0 : ∀ b, d2.may n b = M b := fun b => by rw [← hM]
                  simp only [hM0] at MAY0 RMAY0
                  clear hM hM0
                  by_cases h0 : 0 ≤ n
                  · by_cases h1 : n < 16
                    · obtain ⟨m, rfl⟩ := Int.eq_ofNat_of_zero_le h0
                      have h2 : m < 16 := by omega
                      have hko : d2.keyOf (m : Int) = d2.key m := keyOf_at d2 m h2
                      rw [hko] at KEY0
                      have KEY := Lib.hid KEY0
                      have MAY := Lib.hid MAY0
                      have RMAY := Lib.hid RMAY0
                      have ck := HRr.out.keyCell h2
                      clear hn hne hko KEY0 MAY0 RMAY0
                      generalize d2.key m = ky at *
                      go_upto_region 19 with (fail)
                      clear ck
                      refine wp_region_held_drew (S := fun w' => HasD w' g d2 ∧ HasR w' b4 d2 ∧ Below w.heap.size w w') (by kernel_rfl) ⟨HDr.out.kept (Only.refl [] _).drew_ (by simp), HRr.out.drew_, bdrew HBr.out⟩ (fun hS => ?_)
                      refine wpAnyH_take (i := 0) (v := ?_) rfl (by kernel_rfl) (by kernel_rfl) (by kernel_rfl) (fun _ _ _ h => h) (Or.inl ⟨by rfl, ?_⟩) hS ?_
                      rotate_left
                      · intro w' hSw; go_simp; try rfl
                      try simp only [Act.put, List.getElem_toArray, List.getElem_cons_succ, List.getElem_cons_zero, List.setIfInBounds_toArray, List.set_cons_zero, List.set_cons_succ]
                      refine wpAnyH_take (i := 1) (v := ?_) rfl (by kernel_rfl) (by kernel_rfl) (by kernel_rfl) (fun _ _ _ h => h) (Or.inl ⟨by rfl, ?_⟩) hS ?_
                      rotate_left
                      · intro w' hSw; go_simp; try rfl
                      try simp only [Act.put, List.getElem_toArray, List.getElem_cons_succ, List.getElem_cons_zero, List.setIfInBounds_toArray, List.set_cons_zero, List.set_cons_succ]
                      refine wpAnyH_take (i := 3) (v := ?_) rfl (by kernel_rfl) (by kernel_rfl) (by kernel_rfl) (fun _ _ _ h => h) (Or.inl ⟨by rfl, ?_⟩) hS ?_
                      rotate_left
                      · intro w' hSw; go_simp; try rfl
                      try simp only [Act.put, List.getElem_toArray, List.getElem_cons_succ, List.getElem_cons_zero, List.setIfInBounds_toArray, List.set_cons_zero, List.set_cons_succ]
                      refine wpAnyH_ready (rs := [2]) (by kernel_rfl) (by simp) ?_
                      refine AllReadyH.cons rfl (fun K hK => ?_) AllReadyH.nil
                      go_simp
                      refine ((KEY.out _ hS.1)).mono ?_
                      rintro e wy ⟨rfl, rfl⟩
                      have hT := hS
                      go_wp2_with (fail)
                      refine hK.out _ _ hT (fun hU => ?_)
                      clear hK K hU hS
                      have hS := hT
                      clear hT
                      try simp only [Act.put, List.getElem_toArray, List.getElem_cons_succ, List.getElem_cons_zero, List.setIfInBounds_toArray, List.set_cons_zero, List.set_cons_succ]
                      refine wpAnyH_take (i := 4) (v := ?_) rfl (by kernel_rfl) (by kernel_rfl) (by kernel_rfl) (fun _ _ _ h => h) (Or.inl ⟨by rfl, ?_⟩) hS ?_
                      rotate_left
                      · intro w' hSw; go_simp; try rfl
                      try simp only [Act.put, List.getElem_toArray, List.getElem_cons_succ, List.getElem_cons_zero, List.setIfInBounds_toArray, List.set_cons_zero, List.set_cons_succ]
                      refine wpAnyH_take (i := 5) (v := ?_) rfl (by kernel_rfl) (by kernel_rfl) (by kernel_rfl) (fun _ _ _ h => h) (Or.inl ⟨by rfl, ?_⟩) hS ?_
                      rotate_left
                      · intro w' hSw; go_simp; try rfl
                      try simp only [Act.put, List.getElem_toArray, List.getElem_cons_succ, List.getElem_cons_zero, List.setIfInBounds_toArray, List.set_cons_zero, List.set_cons_succ]
                      refine wpAnyH_take (i := 6) (v := ?_) rfl (by kernel_rfl) (by kernel_rfl) (by kernel_rfl) (fun _ _ _ h => h) (Or.inl ⟨by rfl, ?_⟩) hS ?_
                      rotate_left
                      · intro w' hSw; go_simp; try rfl
                      try simp only [Act.put, List.getElem_toArray, List.getElem_cons_succ, List.getElem_cons_zero, List.setIfInBounds_toArray, List.set_cons_zero, List.set_cons_succ]
                      refine wpAnyH_take (i := 7) (v := ?_) rfl (by kernel_rfl) (by kernel_rfl) (by kernel_rfl) (fun _ _ _ h => h) (Or.inl ⟨by rfl, ?_⟩) hS ?_
                      rotate_left
                      · intro w' hSw; go_simp; try rfl
                      try simp only [Act.put, List.getElem_toArray, List.getElem_cons_succ, List.getElem_cons_zero, List.setIfInBounds_toArray, List.set_cons_zero, List.set_cons_succ]
                      refine wpAnyH_take (i := 9) (v := .agg d2.cells) rfl (by kernel_rfl) (by kernel_rfl) (by kernel_rfl) (fun _ _ _ h => h) (Or.inl ⟨by rfl, ?_⟩) hS ?_
                      · intro w' hSw
                        exact exec_load_row 41 _ rfl b4 rfl 41 _ (0, 0) _ hSw.2.1.heap HU.out rfl (info41 hSw.2.1.len)
                      try simp only [Act.put, List.getElem_toArray, List.getElem_cons_succ, List.getElem_cons_zero, List.setIfInBounds_toArray, List.set_cons_zero, List.set_cons_succ]
                      refine wpAnyH_take (i := 10) (v := ?_) rfl (by kernel_rfl) (by kernel_rfl) (by kernel_rfl) (fun _ _ _ h => h) (Or.inl ⟨by rfl, ?_⟩) hS ?_
                      rotate_left
                      · intro w' hSw; go_simp; try rfl
                      try simp only [Act.put, List.getElem_toArray, List.getElem_cons_succ, List.getElem_cons_zero, List.setIfInBounds_toArray, List.set_cons_zero, List.set_cons_succ]
                      refine wpAnyH_ready (rs := [8]) (by kernel_rfl) (by simp) ?_
                      refine AllReadyH.cons rfl (fun K hK => ?_) AllReadyH.nil
                      go_simp
                      refine ((MAY.out false _ hS.1)).mono ?_
                      rintro e wy ⟨rfl, rfl⟩
                      have hT := hS
                      go_wp2_with (fail)
                      refine hK.out _ _ hT (fun hU => ?_)
                      clear hK K hU hS
                      have hS := hT
                      clear hT
                      try simp only [Act.put, List.getElem_toArray, List.getElem_cons_succ, List.getElem_cons_zero, List.setIfInBounds_toArray, List.set_cons_zero, List.set_cons_succ]
                      refine wpAnyH_ready (rs := [11]) (by kernel_rfl) (by simp) ?_
                      refine AllReadyH.cons rfl (fun K hK => ?_) AllReadyH.nil
                      go_simp
                      refine ((RMAY.out false _)).mono ?_
                      rintro e wy ⟨rfl, hby⟩
                      have hT : HasD wy g d2 ∧ HasR wy b4 d2 ∧ Below w.heap.size w wy := ⟨hS.1.below hby, hS.2.1.kept (Only.of_below hby []) (by simp), hS.2.2.trans (hby.mono (by have := hS.1.lt; omega))⟩
                      clear hby
                      go_wp2_with (fail)
                      refine hK.out _ _ hT (fun hU => ?_)
                      clear hK K hU hS
                      have hS := hT
                      clear hT
                      try simp only [Act.put, List.getElem_toArray, List.getElem_cons_succ, List.getElem_cons_zero, List.setIfInBounds_toArray, List.set_cons_zero, List.set_cons_succ]
                      refine wpAnyH_take (i := 12) (v := ?_) rfl (by kernel_rfl) (by kernel_rfl) (by kernel_rfl) (fun _ _ _ h => h) (Or.inl ⟨by rfl, ?_⟩) hS ?_
                      rotate_left
                      · intro w' hSw; go_simp; try rfl
                      try simp only [Act.put, List.getElem_toArray, List.getElem_cons_succ, List.getElem_cons_zero, List.setIfInBounds_toArray, List.set_cons_zero, List.set_cons_succ]
                      refine wpAnyH_take (i := 13) (v := ?_) rfl (by kernel_rfl) (by kernel_rfl) (by kernel_rfl) (fun _ _ _ h => h) (Or.inl ⟨by rfl, ?_⟩) hS ?_
                      rotate_left
                      · intro w' hSw; go_simp; try rfl
                      try simp only [Act.put, List.getElem_toArray, List.getElem_cons_succ, List.getElem_cons_zero, List.setIfInBounds_toArray, List.set_cons_zero, List.set_cons_succ]
                      refine wpAnyH_take (i := 14) (v := ?_) rfl (by kernel_rfl) (by kernel_rfl) (by kernel_rfl) (fun _ _ _ h => h) (Or.inl ⟨by rfl, ?_⟩) hS ?_
                      rotate_left
                      · intro w' hSw; go_simp; try rfl
                      try simp only [Act.put, List.getElem_toArray, List.getElem_cons_succ, List.getElem_cons_zero, List.setIfInBounds_toArray, List.set_cons_zero, List.set_cons_succ]
                      refine wpAnyH_take (i := 15) (v := ?_) rfl (by kernel_rfl) (by kernel_rfl) (by kernel_rfl) (fun _ _ _ h => h) (Or.inl ⟨by rfl, ?_⟩) hS ?_
                      rotate_left
                      · intro w' hSw; go_simp; try rfl
                      try simp only [Act.put, List.getElem_toArray, List.getElem_cons_succ, List.getElem_cons_zero, List.setIfInBounds_toArray, List.set_cons_zero, List.set_cons_succ]
                      refine wpAnyH_take (i := 16) (v := ?_) rfl (by kernel_rfl) (by kernel_rfl) (by kernel_rfl) (fun _ _ _ h => h) (Or.inl ⟨by rfl, ?_⟩) hS ?_
                      rotate_left
                      · intro w' hSw; go_simp; try rfl
                      try simp only [Act.put, List.getElem_toArray, List.getElem_cons_succ, List.getElem_cons_zero, List.setIfInBounds_toArray, List.set_cons_zero, List.set_cons_succ]
                      refine wpAnyH_take (i := 18) (v := .agg d2.cells) rfl (by kernel_rfl) (by kernel_rfl) (by kernel_rfl) (fun _ _ _ h => h) (Or.inl ⟨by rfl, ?_⟩) hS ?_
                      · intro w' hSw
                        exact exec_load_row 41 _ rfl b4 rfl 41 _ (0, 0) _ hSw.2.1.heap HU.out rfl (info41 hSw.2.1.len)
                      try simp only [Act.put, List.getElem_toArray, List.getElem_cons_succ, List.getElem_cons_zero, List.setIfInBounds_toArray, List.set_cons_zero, List.set_cons_succ]
                      refine wpAnyH_take (i := 19) (v := ?_) rfl (by kernel_rfl) (by kernel_rfl) (by kernel_rfl) (fun _ _ _ h => h) (Or.inl ⟨by rfl, ?_⟩) hS ?_
                      rotate_left
                      · intro w' hSw; go_simp; try rfl
                      try simp only [Act.put, List.getElem_toArray, List.getElem_cons_succ, List.getElem_cons_zero, List.setIfInBounds_toArray, List.set_cons_zero, List.set_cons_succ]
                      refine wpAnyH_ready (rs := [17]) (by kernel_rfl) (by simp) ?_
                      refine AllReadyH.cons rfl (fun K hK => ?_) AllReadyH.nil
                      go_simp
                      refine ((MAY.out true _ hS.1)).mono ?_
                      rintro e wy ⟨rfl, rfl⟩
                      have hT := hS
                      go_wp2_with (fail)
                      refine hK.out _ _ hT (fun hU => ?_)
                      clear hK K hU hS
                      have hS := hT
                      clear hT
                      try simp only [Act.put, List.getElem_toArray, List.getElem_cons_succ, List.getElem_cons_zero, List.setIfInBounds_toArray, List.set_cons_zero, List.set_cons_succ]
                      refine wpAnyH_ready (rs := [20]) (by kernel_rfl) (by simp) ?_
                      refine AllReadyH.cons rfl (fun K hK => ?_) AllReadyH.nil
                      go_simp
                      refine ((RMAY.out true _)).mono ?_
                      rintro e wy ⟨rfl, hby⟩
                      have hT : HasD wy g d2 ∧ HasR wy b4 d2 ∧ Below w.heap.size w wy := ⟨hS.1.below hby, hS.2.1.kept (Only.of_below hby []) (by simp), hS.2.2.trans (hby.mono (by have := hS.1.lt; omega))⟩
                      clear hby
                      go_wp2_with (fail)
                      refine hK.out _ _ hT (fun hU => ?_)
                      clear hK K hU hS
                      have hS := hT
                      clear hT
                      try simp only [Act.put, List.getElem_toArray, List.getElem_cons_succ, List.getElem_cons_zero, List.setIfInBounds_toArray, List.set_cons_zero, List.set_cons_succ]
                      refine wpAnyH_take (i := 21) (v := ?_) rfl (by kernel_rfl) (by kernel_rfl) (by kernel_rfl) (fun _ _ _ h => h) (Or.inl ⟨by rfl, ?_⟩) hS ?_
                      rotate_left
                      · intro w' hSw; go_simp; try rfl
                      try simp only [Act.put, List.getElem_toArray, List.getElem_cons_succ, List.getElem_cons_zero, List.setIfInBounds_toArray, List.set_cons_zero, List.set_cons_succ]
                      refine wpAnyH_take (i := 22) (v := ?_) rfl (by kernel_rfl) (by kernel_rfl) (by kernel_rfl) (fun _ _ _ h => h) (Or.inl ⟨by rfl, ?_⟩) hS ?_
                      rotate_left
                      · intro w' hSw; go_simp; try rfl
                      try simp only [Act.put, List.getElem_toArray, List.getElem_cons_succ, List.getElem_cons_zero, List.setIfInBounds_toArray, List.set_cons_zero, List.set_cons_succ]
                      refine wpAnyH_done (by kernel_rfl) ?_ _
                      have HDx := Lib.hid hS.1
                      have HRx := Lib.hid hS.2.1
                      have HBx := Lib.hid hS.2.2
                      clear hS
                      go_wp2_with (fail)
                      go_roundg (18 - (j + 1))
                      case measure => have := HQ6.out; omega
                      case rel => exact ⟨j + 1, by omega, (by have h3 := HN.out; go_num), rfl, HDx.out, HRx.out, HBx.out⟩
                    · have hko : d2.keyOf n = 0 := by unfold Dk.keyOf; rw [if_neg]; rintro ⟨a, b⟩; exact h1 b
                      rw [hko] at KEY0
                      have KEY := Lib.hid KEY0
                      have MAY := Lib.hid MAY0
                      have RMAY := Lib.hid RMAY0
                      clear hn hne hko KEY0 MAY0 RMAY0
                      go_upto_region 19 with (fail)
                      refine wp_region_held_drew (S := fun w' => HasD w' g d2 ∧ HasR w' b4 d2 ∧ Below w.heap.size w w') (by kernel_rfl) ⟨HDr.out.kept (Only.refl [] _).drew_ (by simp), HRr.out.drew_, bdrew HBr.out⟩ (fun hS => ?_)
                      refine wpAnyH_take (i := 0) (v := ?_) rfl (by kernel_rfl) (by kernel_rfl) (by kernel_rfl) (fun _ _ _ h => h) (Or.inl ⟨by rfl, ?_⟩) hS ?_
                      rotate_left
                      · intro w' hSw; go_simp; try rfl
                      try simp only [Act.put, List.getElem_toArray, List.getElem_cons_succ, List.getElem_cons_zero, List.setIfInBounds_toArray, List.set_cons_zero, List.set_cons_succ]
                      refine wpAnyH_take (i := 1) (v := ?_) rfl (by kernel_rfl) (by kernel_rfl) (by kernel_rfl) (fun _ _ _ h => h) (Or.inl ⟨by rfl, ?_⟩) hS ?_
                      rotate_left
                      · intro w' hSw; go_simp; try rfl
                      try simp only [Act.put, List.getElem_toArray, List.getElem_cons_succ, List.getElem_cons_zero, List.setIfInBounds_toArray, List.set_cons_zero, List.set_cons_succ]
                      refine wpAnyH_take (i := 3) (v := ?_) rfl (by kernel_rfl) (by kernel_rfl) (by kernel_rfl) (fun _ _ _ h => h) (Or.inl ⟨by rfl, ?_⟩) hS ?_
                      rotate_left
                      · intro w' hSw; go_simp; try rfl
                      try simp only [Act.put, List.getElem_toArray, List.getElem_cons_succ, List.getElem_cons_zero, List.setIfInBounds_toArray, List.set_cons_zero, List.set_cons_succ]
                      refine wpAnyH_ready (rs := [2]) (by kernel_rfl) (by simp) ?_
                      refine AllReadyH.cons rfl (fun K hK => ?_) AllReadyH.nil
                      go_simp
                      refine ((KEY.out _ hS.1)).mono ?_
                      rintro e wy ⟨rfl, rfl⟩
                      have hT := hS
                      go_wp2_with (fail)
                      refine hK.out _ _ hT (fun hU => ?_)
                      clear hK K hU hS
                      have hS := hT
                      clear hT
                      try simp only [Act.put, List.getElem_toArray, List.getElem_cons_succ, List.getElem_cons_zero, List.setIfInBounds_toArray, List.set_cons_zero, List.set_cons_succ]
                      refine wpAnyH_take (i := 4) (v := ?_) rfl (by kernel_rfl) (by kernel_rfl) (by kernel_rfl) (fun _ _ _ h => h) (Or.inl ⟨by rfl, ?_⟩) hS ?_
                      rotate_left
                      · intro w' hSw; go_simp; try rfl
                      try simp only [Act.put, List.getElem_toArray, List.getElem_cons_succ, List.getElem_cons_zero, List.setIfInBounds_toArray, List.set_cons_zero, List.set_cons_succ]
                      refine wpAnyH_take (i := 5) (v := ?_) rfl (by kernel_rfl) (by kernel_rfl) (by kernel_rfl) (fun _ _ _ h => h) (Or.inl ⟨by rfl, ?_⟩) hS ?_
                      rotate_left
                      · intro w' hSw; go_simp; try rfl
                      try simp only [Act.put, List.getElem_toArray, List.getElem_cons_succ, List.getElem_cons_zero, List.setIfInBounds_toArray, List.set_cons_zero, List.set_cons_succ]
                      refine wpAnyH_take (i := 6) (v := ?_) rfl (by kernel_rfl) (by kernel_rfl) (by kernel_rfl) (fun _ _ _ h => h) (Or.inl ⟨by rfl, ?_⟩) hS ?_
                      rotate_left
                      · intro w' hSw; go_simp; try rfl
                      try simp only [Act.put, List.getElem_toArray, List.getElem_cons_succ, List.getElem_cons_zero, List.setIfInBounds_toArray, List.set_cons_zero, List.set_cons_succ]
                      refine wpAnyH_take (i := 7) (v := ?_) rfl (by kernel_rfl) (by kernel_rfl) (by kernel_rfl) (fun _ _ _ h => h) (Or.inl ⟨by rfl, ?_⟩) hS ?_
                      rotate_left
                      · intro w' hSw; go_simp; try rfl
                      try simp only [Act.put, List.getElem_toArray, List.getElem_cons_succ, List.getElem_cons_zero, List.setIfInBounds_toArray, List.set_cons_zero, List.set_cons_succ]
                      refine wpAnyH_take (i := 9) (v := .agg d2.cells) rfl (by kernel_rfl) (by kernel_rfl) (by kernel_rfl) (fun _ _ _ h => h) (Or.inl ⟨by rfl, ?_⟩) hS ?_
                      · intro w' hSw
                        exact exec_load_row 41 _ rfl b4 rfl 41 _ (0, 0) _ hSw.2.1.heap HU.out rfl (info41 hSw.2.1.len)
                      try simp only [Act.put, List.getElem_toArray, List.getElem_cons_succ, List.getElem_cons_zero, List.setIfInBounds_toArray, List.set_cons_zero, List.set_cons_succ]
                      refine wpAnyH_take (i := 10) (v := ?_) rfl (by kernel_rfl) (by kernel_rfl) (by kernel_rfl) (fun _ _ _ h => h) (Or.inl ⟨by rfl, ?_⟩) hS ?_
                      rotate_left
                      · intro w' hSw; go_simp; try rfl
                      try simp only [Act.put, List.getElem_toArray, List.getElem_cons_succ, List.getElem_cons_zero, List.setIfInBounds_toArray, List.set_cons_zero, List.set_cons_succ]
                      refine wpAnyH_ready (rs := [8]) (by kernel_rfl) (by simp) ?_
                      refine AllReadyH.cons rfl (fun K hK => ?_) AllReadyH.nil
                      go_simp
                      refine ((MAY.out false _ hS.1)).mono ?_
                      rintro e wy ⟨rfl, rfl⟩
                      have hT := hS
                      go_wp2_with (fail)
                      refine hK.out _ _ hT (fun hU => ?_)
                      clear hK K hU hS
                      have hS := hT
                      clear hT
                      try simp only [Act.put, List.getElem_toArray, List.getElem_cons_succ, List.getElem_cons_zero, List.setIfInBounds_toArray, List.set_cons_zero, List.set_cons_succ]
                      refine wpAnyH_ready (rs := [11]) (by kernel_rfl) (by simp) ?_
                      refine AllReadyH.cons rfl (fun K hK => ?_) AllReadyH.nil
                      go_simp
                      refine ((RMAY.out false _)).mono ?_
                      rintro e wy ⟨rfl, hby⟩
                      have hT : HasD wy g d2 ∧ HasR wy b4 d2 ∧ Below w.heap.size w wy := ⟨hS.1.below hby, hS.2.1.kept (Only.of_below hby []) (by simp), hS.2.2.trans (hby.mono (by have := hS.1.lt; omega))⟩
                      clear hby
                      go_wp2_with (fail)
                      refine hK.out _ _ hT (fun hU => ?_)
                      clear hK K hU hS
                      have hS := hT
                      clear hT
                      try simp only [Act.put, List.getElem_toArray, List.getElem_cons_succ, List.getElem_cons_zero, List.setIfInBounds_toArray, List.set_cons_zero, List.set_cons_succ]
                      refine wpAnyH_take (i := 12) (v := ?_) rfl (by kernel_rfl) (by kernel_rfl) (by kernel_rfl) (fun _ _ _ h => h) (Or.inl ⟨by rfl, ?_⟩) hS ?_
                      rotate_left
                      · intro w' hSw; go_simp; try rfl
                      try simp only [Act.put, List.getElem_toArray, List.getElem_cons_succ, List.getElem_cons_zero, List.setIfInBounds_toArray, List.set_cons_zero, List.set_cons_succ]
                      refine wpAnyH_take (i := 13) (v := ?_) rfl (by kernel_rfl) (by kernel_rfl) (by kernel_rfl) (fun _ _ _ h => h) (Or.inl ⟨by rfl, ?_⟩) hS ?_
                      rotate_left
                      · intro w' hSw; go_simp; try rfl
                      try simp only [Act.put, List.getElem_toArray, List.getElem_cons_succ, List.getElem_cons_zero, List.setIfInBounds_toArray, List.set_cons_zero, List.set_cons_succ]
                      refine wpAnyH_take (i := 14) (v := ?_) rfl (by kernel_rfl) (by kernel_rfl) (by kernel_rfl) (fun _ _ _ h => h) (Or.inl ⟨by rfl, ?_⟩) hS ?_
                      rotate_left
                      · intro w' hSw; go_simp; try rfl
                      try simp only [Act.put, List.getElem_toArray, List.getElem_cons_succ, List.getElem_cons_zero, List.setIfInBounds_toArray, List.set_cons_zero, List.set_cons_succ]
                      refine wpAnyH_take (i := 15) (v := ?_) rfl (by kernel_rfl) (by kernel_rfl) (by kernel_rfl) (fun _ _ _ h => h) (Or.inl ⟨by rfl, ?_⟩) hS ?_
                      rotate_left
                      · intro w' hSw; go_simp; try rfl
                      try simp only [Act.put, List.getElem_toArray, List.getElem_cons_succ, List.getElem_cons_zero, List.setIfInBounds_toArray, List.set_cons_zero, List.set_cons_succ]
                      refine wpAnyH_take (i := 16) (v := ?_) rfl (by kernel_rfl) (by kernel_rfl) (by kernel_rfl) (fun _ _ _ h => h) (Or.inl ⟨by rfl, ?_⟩) hS ?_
                      rotate_left
                      · intro w' hSw; go_simp; try rfl
                      try simp only [Act.put, List.getElem_toArray, List.getElem_cons_succ, List.getElem_cons_zero, List.setIfInBounds_toArray, List.set_cons_zero, List.set_cons_succ]
                      refine wpAnyH_take (i := 18) (v := .agg d2.cells) rfl (by kernel_rfl) (by kernel_rfl) (by kernel_rfl) (fun _ _ _ h => h) (Or.inl ⟨by rfl, ?_⟩) hS ?_
                      · intro w' hSw
                        exact exec_load_row 41 _ rfl b4 rfl 41 _ (0, 0) _ hSw.2.1.heap HU.out rfl (info41 hSw.2.1.len)
                      try simp only [Act.put, List.getElem_toArray, List.getElem_cons_succ, List.getElem_cons_zero, List.setIfInBounds_toArray, List.set_cons_zero, List.set_cons_succ]
                      refine wpAnyH_take (i := 19) (v := ?_) rfl (by kernel_rfl) (by kernel_rfl) (by kernel_rfl) (fun _ _ _ h => h) (Or.inl ⟨by rfl, ?_⟩) hS ?_
                      rotate_left
                      · intro w' hSw; go_simp; try rfl
                      try simp only [Act.put, List.getElem_toArray, List.getElem_cons_succ, List.getElem_cons_zero, List.setIfInBounds_toArray, List.set_cons_zero, List.set_cons_succ]
                      refine wpAnyH_ready (rs := [17]) (by kernel_rfl) (by simp) ?_
                      refine AllReadyH.cons rfl (fun K hK => ?_) AllReadyH.nil
                      go_simp
                      refine ((MAY.out true _ hS.1)).mono ?_
                      rintro e wy ⟨rfl, rfl⟩
                      have hT := hS
                      go_wp2_with (fail)
                      refine hK.out _ _ hT (fun hU => ?_)
                      clear hK K hU hS
                      have hS := hT
                      clear hT
                      try simp only [Act.put, List.getElem_toArray, List.getElem_cons_succ, List.getElem_cons_zero, List.setIfInBounds_toArray, List.set_cons_zero, List.set_cons_succ]
                      refine wpAnyH_ready (rs := [20]) (by kernel_rfl) (by simp) ?_
                      refine AllReadyH.cons rfl (fun K hK => ?_) AllReadyH.nil
                      go_simp
                      refine ((RMAY.out true _)).mono ?_
                      rintro e wy ⟨rfl, hby⟩
                      have hT : HasD wy g d2 ∧ HasR wy b4 d2 ∧ Below w.heap.size w wy := ⟨hS.1.below hby, hS.2.1.kept (Only.of_below hby []) (by simp), hS.2.2.trans (hby.mono (by have := hS.1.lt; omega))⟩
                      clear hby
                      go_wp2_with (fail)
                      refine hK.out _ _ hT (fun hU => ?_)
                      clear hK K hU hS
                      have hS := hT
                      clear hT
                      try simp only [Act.put, List.getElem_toArray, List.getElem_cons_succ, List.getElem_cons_zero, List.setIfInBounds_toArray, List.set_cons_zero, List.set_cons_succ]
                      refine wpAnyH_take (i := 21) (v := ?_) rfl (by kernel_rfl) (by kernel_rfl) (by kernel_rfl) (fun _ _ _ h => h) (Or.inl ⟨by rfl, ?_⟩) hS ?_
                      rotate_left
                      · intro w' hSw; go_simp; try rfl
                      try simp only [Act.put, List.getElem_toArray, List.getElem_cons_succ, List.getElem_cons_zero, List.setIfInBounds_toArray, List.set_cons_zero, List.set_cons_succ]
                      refine wpAnyH_take (i := 22) (v := ?_) rfl (by kernel_rfl) (by kernel_rfl) (by kernel_rfl) (fun _ _ _ h => h) (Or.inl ⟨by rfl, ?_⟩) hS ?_
                      rotate_left
                      · intro w' hSw; go_simp; try rfl
                      try simp only [Act.put, List.getElem_toArray, List.getElem_cons_succ, List.getElem_cons_zero, List.setIfInBounds_toArray, List.set_cons_zero, List.set_cons_succ]
                      refine wpAnyH_done (by kernel_rfl) ?_ _
                      have HDx := Lib.hid hS.1
                      have HRx := Lib.hid hS.2.1
                      have HBx := Lib.hid hS.2.2
                      clear hS
                      go_wp2_with (fail)
                      go_roundg (18 - (j + 1))
                      case measure => have := HQ6.out; omega
                      case rel => exact ⟨j + 1, by omega, (by have h3 := HN.out; go_num), rfl, HDx.out, HRx.out, HBx.out⟩
                  · obtain rfl : n = -1 := by omega
                    obtain rfl : j = 0 := by omega
                    have hko : d2.keyOf (-1) = 0 := rfl
                    rw [hko] at KEY0
                    have KEY := Lib.hid KEY0
                    have MAY := Lib.hid MAY0
                    have RMAY := Lib.hid RMAY0
                    clear hn hne hko KEY0 MAY0 RMAY0
                    go_upto_region 19 with (fail)
                    refine wp_region_held_drew (S := fun w' => HasD w' g d2 ∧ HasR w' b4 d2 ∧ Below w.heap.size w w') (by kernel_rfl) ⟨HDr.out.kept (Only.refl [] _).drew_ (by simp), HRr.out.drew_, bdrew HBr.out⟩ (fun hS => ?_)
                    refine wpAnyH_take (i := 0) (v := ?_) rfl (by kernel_rfl) (by kernel_rfl) (by kernel_rfl) (fun _ _ _ h => h) (Or.inl ⟨by rfl, ?_⟩) hS ?_
                    rotate_left
                    · intro w' hSw; go_simp; try rfl
                    try simp only [Act.put, List.getElem_toArray, List.getElem_cons_succ, List.getElem_cons_zero, List.setIfInBounds_toArray, List.set_cons_zero, List.set_cons_succ]
                    refine wpAnyH_take (i := 1) (v := ?_) rfl (by kernel_rfl) (by kernel_rfl) (by kernel_rfl) (fun _ _ _ h => h) (Or.inl ⟨by rfl, ?_⟩) hS ?_
                    rotate_left
                    · intro w' hSw; go_simp; try rfl
                    try simp only [Act.put, List.getElem_toArray, List.getElem_cons_succ, List.getElem_cons_zero, List.setIfInBounds_toArray, List.set_cons_zero, List.set_cons_succ]
                    refine wpAnyH_take (i := 3) (v := ?_) rfl (by kernel_rfl) (by kernel_rfl) (by kernel_rfl) (fun _ _ _ h => h) (Or.inl ⟨by rfl, ?_⟩) hS ?_
                    rotate_left
                    · intro w' hSw; go_simp; try rfl
                    try simp only [Act.put, List.getElem_toArray, List.getElem_cons_succ, List.getElem_cons_zero, List.setIfInBounds_toArray, List.set_cons_zero, List.set_cons_succ]
                    refine wpAnyH_ready (rs := [2]) (by kernel_rfl) (by simp) ?_
                    refine AllReadyH.cons rfl (fun K hK => ?_) AllReadyH.nil
                    go_simp
                    refine ((KEY.out _ hS.1)).mono ?_
                    rintro e wy ⟨rfl, rfl⟩
                    have hT := hS
                    go_wp2_with (fail)
                    refine hK.out _ _ hT (fun hU => ?_)
                    clear hK K hU hS
                    have hS := hT
                    clear hT
                    try simp only [Act.put, List.getElem_toArray, List.getElem_cons_succ, List.getElem_cons_zero, List.setIfInBounds_toArray, List.set_cons_zero, List.set_cons_succ]
                    refine wpAnyH_take (i := 4) (v := ?_) rfl (by kernel_rfl) (by kernel_rfl) (by kernel_rfl) (fun _ _ _ h => h) (Or.inl ⟨by rfl, ?_⟩) hS ?_
                    rotate_left
                    · intro w' hSw; go_simp; try rfl
                    try simp only [Act.put, List.getElem_toArray, List.getElem_cons_succ, List.getElem_cons_zero, List.setIfInBounds_toArray, List.set_cons_zero, List.set_cons_succ]
                    refine wpAnyH_take (i := 5) (v := ?_) rfl (by kernel_rfl) (by kernel_rfl) (by kernel_rfl) (fun _ _ _ h => h) (Or.inl ⟨by rfl, ?_⟩) hS ?_
                    rotate_left
                    · intro w' hSw; go_simp; try rfl
                    try simp only [Act.put, List.getElem_toArray, List.getElem_cons_succ, List.getElem_cons_zero, List.setIfInBounds_toArray, List.set_cons_zero, List.set_cons_succ]
                    refine wpAnyH_take (i := 6) (v := ?_) rfl (by kernel_rfl) (by kernel_rfl) (by kernel_rfl) (fun _ _ _ h => h) (Or.inl ⟨by rfl, ?_⟩) hS ?_
                    rotate_left
                    · intro w' hSw; go_simp; try rfl
                    try simp only [Act.put, List.getElem_toArray, List.getElem_cons_succ, List.getElem_cons_zero, List.setIfInBounds_toArray, List.set_cons_zero, List.set_cons_succ]
                    refine wpAnyH_take (i := 7) (v := ?_) rfl (by kernel_rfl) (by kernel_rfl) (by kernel_rfl) (fun _ _ _ h => h) (Or.inl ⟨by rfl, ?_⟩) hS ?_
                    rotate_left
                    · intro w' hSw; go_simp; try rfl
                    try simp only [Act.put, List.getElem_toArray, List.getElem_cons_succ, List.getElem_cons_zero, List.setIfInBounds_toArray, List.set_cons_zero, List.set_cons_succ]
                    refine wpAnyH_take (i := 9) (v := .agg d2.cells) rfl (by kernel_rfl) (by kernel_rfl) (by kernel_rfl) (fun _ _ _ h => h) (Or.inl ⟨by rfl, ?_⟩) hS ?_
                    · intro w' hSw
                      exact exec_load_row 41 _ rfl b4 rfl 41 _ (0, 0) _ hSw.2.1.heap HU.out rfl (info41 hSw.2.1.len)
                    try simp only [Act.put, List.getElem_toArray, List.getElem_cons_succ, List.getElem_cons_zero, List.setIfInBounds_toArray, List.set_cons_zero, List.set_cons_succ]
                    refine wpAnyH_take (i := 10) (v := ?_) rfl (by kernel_rfl) (by kernel_rfl) (by kernel_rfl) (fun _ _ _ h => h) (Or.inl ⟨by rfl, ?_⟩) hS ?_
                    rotate_left
                    · intro w' hSw; go_simp; try rfl
                    try simp only [Act.put, List.getElem_toArray, List.getElem_cons_succ, List.getElem_cons_zero, List.setIfInBounds_toArray, List.set_cons_zero, List.set_cons_succ]
                    refine wpAnyH_ready (rs := [8]) (by kernel_rfl) (by simp) ?_
                    refine AllReadyH.cons rfl (fun K hK => ?_) AllReadyH.nil
                    go_simp
                    refine ((MAY.out false _ hS.1)).mono ?_
                    rintro e wy ⟨rfl, rfl⟩
                    have hT := hS
                    go_wp2_with (fail)
                    refine hK.out _ _ hT (fun hU => ?_)
                    clear hK K hU hS
                    have hS := hT
                    clear hT
                    try simp only [Act.put, List.getElem_toArray, List.getElem_cons_succ, List.getElem_cons_zero, List.setIfInBounds_toArray, List.set_cons_zero, List.set_cons_succ]
                    refine wpAnyH_ready (rs := [11]) (by kernel_rfl) (by simp) ?_
                    refine AllReadyH.cons rfl (fun K hK => ?_) AllReadyH.nil
                    go_simp
                    refine ((RMAY.out false _)).mono ?_
                    rintro e wy ⟨rfl, hby⟩
                    have hT : HasD wy g d2 ∧ HasR wy b4 d2 ∧ Below w.heap.size w wy := ⟨hS.1.below hby, hS.2.1.kept (Only.of_below hby []) (by simp), hS.2.2.trans (hby.mono (by have := hS.1.lt; omega))⟩
                    clear hby
                    go_wp2_with (fail)
                    refine hK.out _ _ hT (fun hU => ?_)
                    clear hK K hU hS
                    have hS := hT
                    clear hT
                    try simp only [Act.put, List.getElem_toArray, List.getElem_cons_succ, List.getElem_cons_zero, List.setIfInBounds_toArray, List.set_cons_zero, List.set_cons_succ]
                    refine wpAnyH_take (i := 12) (v := ?_) rfl (by kernel_rfl) (by kernel_rfl) (by kernel_rfl) (fun _ _ _ h => h) (Or.inl ⟨by rfl, ?_⟩) hS ?_
                    rotate_left
                    · intro w' hSw; go_simp; try rfl
                    try simp only [Act.put, List.getElem_toArray, List.getElem_cons_succ, List.getElem_cons_zero, List.setIfInBounds_toArray, List.set_cons_zero, List.set_cons_succ]
                    refine wpAnyH_take (i := 13) (v := ?_) rfl (by kernel_rfl) (by kernel_rfl) (by kernel_rfl) (fun _ _ _ h => h) (Or.inl ⟨by rfl, ?_⟩) hS ?_
                    rotate_left
                    · intro w' hSw; go_simp; try rfl
                    try simp only [Act.put, List.getElem_toArray, List.getElem_cons_succ, List.getElem_cons_zero, List.setIfInBounds_toArray, List.set_cons_zero, List.set_cons_succ]
                    refine wpAnyH_take (i := 14) (v := ?_) rfl (by kernel_rfl) (by kernel_rfl) (by kernel_rfl) (fun _ _ _ h => h) (Or.inl ⟨by rfl, ?_⟩) hS ?_
                    rotate_left
                    · intro w' hSw; go_simp; try rfl
                    try simp only [Act.put, List.getElem_toArray, List.getElem_cons_succ, List.getElem_cons_zero, List.setIfInBounds_toArray, List.set_cons_zero, List.set_cons_succ]
                    refine wpAnyH_take (i := 15) (v := ?_) rfl (by kernel_rfl) (by kernel_rfl) (by kernel_rfl) (fun _ _ _ h => h) (Or.inl ⟨by rfl, ?_⟩) hS ?_
                    rotate_left
                    · intro w' hSw; go_simp; try rfl
                    try simp only [Act.put, List.getElem_toArray, List.getElem_cons_succ, List.getElem_cons_zero, List.setIfInBounds_toArray, List.set_cons_zero, List.set_cons_succ]
                    refine wpAnyH_take (i := 16) (v := ?_) rfl (by kernel_rfl) (by kernel_rfl) (by kernel_rfl) (fun _ _ _ h => h) (Or.inl ⟨by rfl, ?_⟩) hS ?_
                    rotate_left
                    · intro w' hSw; go_simp; try rfl
                    try simp only [Act.put, List.getElem_toArray, List.getElem_cons_succ, List.getElem_cons_zero, List.setIfInBounds_toArray, List.set_cons_zero, List.set_cons_succ]
                    refine wpAnyH_take (i := 18) (v := .agg d2.cells) rfl (by kernel_rfl) (by kernel_rfl) (by kernel_rfl) (fun _ _ _ h => h) (Or.inl ⟨by rfl, ?_⟩) hS ?_
                    · intro w' hSw
                      exact exec_load_row 41 _ rfl b4 rfl 41 _ (0, 0) _ hSw.2.1.heap HU.out rfl (info41 hSw.2.1.len)
                    try simp only [Act.put, List.getElem_toArray, List.getElem_cons_succ, List.getElem_cons_zero, List.setIfInBounds_toArray, List.set_cons_zero, List.set_cons_succ]
                    refine wpAnyH_take (i := 19) (v := ?_) rfl (by kernel_rfl) (by kernel_rfl) (by kernel_rfl) (fun _ _ _ h => h) (Or.inl ⟨by rfl, ?_⟩) hS ?_
                    rotate_left
                    · intro w' hSw; go_simp; try rfl
                    try simp only [Act.put, List.getElem_toArray, List.getElem_cons_succ, List.getElem_cons_zero, List.setIfInBounds_toArray, List.set_cons_zero, List.set_cons_succ]
                    refine wpAnyH_ready (rs := [17]) (by kernel_rfl) (by simp) ?_
                    refine AllReadyH.cons rfl (fun K hK => ?_) AllReadyH.nil
                    go_simp
                    refine ((MAY.out true _ hS.1)).mono ?_
                    rintro e wy ⟨rfl, rfl⟩
                    have hT := hS
                    go_wp2_with (fail)
                    refine hK.out _ _ hT (fun hU => ?_)
                    clear hK K hU hS
                    have hS := hT
                    clear hT
                    try simp only [Act.put, List.getElem_toArray, List.getElem_cons_succ, List.getElem_cons_zero, List.setIfInBounds_toArray, List.set_cons_zero, List.set_cons_succ]
                    refine wpAnyH_ready (rs := [20]) (by kernel_rfl) (by simp) ?_
                    refine AllReadyH.cons rfl (fun K hK => ?_) AllReadyH.nil
                    go_simp
                    refine ((RMAY.out true _)).mono ?_
                    rintro e wy ⟨rfl, hby⟩
                    have hT : HasD wy g d2 ∧ HasR wy b4 d2 ∧ Below w.heap.size w wy := ⟨hS.1.below hby, hS.2.1.kept (Only.of_below hby []) (by simp), hS.2.2.trans (hby.mono (by have := hS.1.lt; omega))⟩
                    clear hby
                    go_wp2_with (fail)
                    refine hK.out _ _ hT (fun hU => ?_)
                    clear hK K hU hS
                    have hS := hT
                    clear hT
                    try simp only [Act.put, List.getElem_toArray, List.getElem_cons_succ, List.getElem_cons_zero, List.setIfInBounds_toArray, List.set_cons_zero, List.set_cons_succ]
                    refine wpAnyH_take (i := 21) (v := ?_) rfl (by kernel_rfl) (by kernel_rfl) (by kernel_rfl) (fun _ _ _ h => h) (Or.inl ⟨by rfl, ?_⟩) hS ?_
                    rotate_left
                    · intro w' hSw; go_simp; try rfl
                    try simp only [Act.put, List.getElem_toArray, List.getElem_cons_succ, List.getElem_cons_zero, List.setIfInBounds_toArray, List.set_cons_zero, List.set_cons_succ]
                    refine wpAnyH_take (i := 22) (v := ?_) rfl (by kernel_rfl) (by kernel_rfl) (by kernel_rfl) (fun _ _ _ h => h) (Or.inl ⟨by rfl, ?_⟩) hS ?_
                    rotate_left
                    · intro w' hSw; go_simp; try rfl
                    try simp only [Act.put, List.getElem_toArray, List.getElem_cons_succ, List.getElem_cons_zero, List.setIfInBounds_toArray, List.set_cons_zero, List.set_cons_succ]
                    refine wpAnyH_done (by kernel_rfl) ?_ _
                    have HDx := Lib.hid hS.1
                    have HRx := Lib.hid hS.2.1
                    have HBx := Lib.hid hS.2.2
                    clear hS
                    go_wp2_with (fail)
                    go_roundg (18 - (0 + 1))
                    case measure => have := HQ6.out; omega
                    case rel => exact ⟨0 + 1, by omega, (by have h3 := HN.out; go_num), rfl, HDx.out, HRx.out, HBx.out⟩
                · obtain rfl : j = 18 := by omega
                  clear KEY0 MAY0 RMAY0
                  go_wp2_with (fail)
                  go_roundg (os.length - (i + 1))
                  case measure => have := HQ.out; omega
                  case rel => exact ⟨i + 1, by omega, by go_num, rfl, ⟨_, HDr.out, HRr.out, HF2.out⟩, HBr.out⟩
    · obtain rfl : i = os.length := by omega
      go_wp2_with (fail)
      go_ret
      exact ⟨rfl, HB.out⟩
end Go.Proofs.Ytiemlpkkbfojfaa.Res
