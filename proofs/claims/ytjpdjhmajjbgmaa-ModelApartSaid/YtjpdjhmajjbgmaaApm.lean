/- ModelApart, walked. -/
import Derived.Test.YtjpdjhmajjbgmaaSmr
import Derived.Test.YtjpdjhmajjbgmaaAp0
set_option linter.unusedVariables false
set_option linter.unusedSimpArgs false
namespace Go.Proofs.Ytjpdjhmajjbgmaa.Md
open Go Go.RowKit Res
open Wd (Cmd u8s balloc Rd)
set_option maxRecDepth 100000 in
set_option maxHeartbeats 16000000 in
theorem apart_walk (n1 n2 a b : Nat) (x1 x2 : List Int) (v1 v2 : Value) (w : World) (h1 : Rd w v1 n1 16 (u8s x1)) (h2 : Rd w v2 n2 16 (u8s x2)) (l1 : n1 * 16 ≤ 140737488355328) (l2 : n2 * 16 ≤ 140737488355328) (ha : a < 256) (hb : b < 256) :
    Calls Try.prog 4 #[v1, v2, .int .u8 (a : Int), .int .u8 (b : Int)] w fun e w' => e = .returned (.bool true) ∧ Below w.heap.size w w' := by
  obtain ⟨A1, c1, rfl⟩ : ∃ A cp, v1 = .slice A n1 cp := by
    obtain ⟨_, A, cp, h1, _⟩ := h1; exact ⟨A, cp, h1⟩
  obtain ⟨A2, c2, rfl⟩ : ∃ A cp, v2 = .slice A n2 cp := by
    obtain ⟨_, A, cp, h1, _⟩ := h2; exact ⟨A, cp, h1⟩
  have HN := kp (fun W => new_unit 60 (by decide) (by decide) W)
  have HAW := kp (fun W => awake_any W)
  have H1 := kp h1
  have H2 := kp h2
  have HL1 := kp l1
  have HL2 := kp l2
  clear h1 h2 l1 l2
  go_enter Try.func4, Try.ntmps4
  go_wp2_with (fail)
  refine (HN.out _).mono ?_
  rintro e wa ⟨g, gd, gs, rfl, hu, hg, hgd, hgs, hba⟩
  have HU := kp hu
  have HB := kp hba
  have HGW : Hid (w.heap.size ≤ gd ∧ w.heap.size ≤ gs) := kp ⟨hgd, hgs⟩
  clear hu hba
  go_wp2_with (fail)
  refine (HN.out _).mono ?_
  rintro e wb ⟨g2, gd2, gs2, rfl, hu2, hg2, hgd2, hgs2, hbb⟩
  have HU1 := kp (HU.out.below hbb)
  have HV1 := kp hu2
  have HB1 := kp (HB.out.trans (hbb.mono HB.out.size))
  have HGW2 : Hid (w.heap.size ≤ gd2 ∧ w.heap.size ≤ gs2) := kp (by have := HB.out.size; omega)
  have HSEP : Hid ((g2 ≠ gd ∧ gd2 ≠ gd ∧ gs2 ≠ gd) ∧ (g2 ≠ gs ∧ gd2 ≠ gs ∧ gs2 ≠ gs) ∧ (g ≠ gd2 ∧ g ≠ gs2)) := kp (by have p1 := HU.out.d.lt; have p2 := lt_of_heap HU.out.s; have p3 := lt_of_heap HU.out.u; omega)
  clear hu2 hbb HU HB
  go_wp2_with (fail)
  refine (HAW.out _).mono ?_
  rintro e wc0 ⟨rfl, hbc⟩
  have HU2 := kp (HU1.out.below hbc)
  have HV2 := kp (HV1.out.below hbc)
  have HB2 := kp (HB1.out.trans (hbc.mono HB1.out.size))
  clear hbc HU1 HV1 HB1 HN HAW
  go_upto_region 6 with (fail)
  obtain ⟨p, hpe, hp⟩ : ∃ p : Nat, (a : Int) % 30 = (p : Int) ∧ p < 30 := ⟨a % 30, by omega, by omega⟩
  obtain ⟨q, hqe, hq⟩ : ∃ q : Nat, (b : Int) % 20 = (q : Int) ∧ q < 20 := ⟨b % 20, by omega, by omega⟩
  obtain ⟨r, hre, hr⟩ : ∃ r : Nat, (p : Int) + 8 + (q : Int) = (r : Int) ∧ r = p + 8 + q := ⟨p + 8 + q, by omega, rfl⟩
  have hr57 : r < 57 := by omega
  have HRE := kp hr
  clear hr
  rw [hpe]
  clear hpe
  go_upto_region 7 with (first
    | (refine wpList_store_row rfl 35 _ _ rfl wc0.heap.size _ rfl rfl 35 _ (heap_alloc_new wc0 _) (by kernel_rfl) rfl (Wd.row_one _ _ _ _ _ _ _ _ _) ?_))
  have hC := Co.start wc0 (Cmd.arr (wcmd p n1 x1) (.slice A1 n1 c1))
  have HU3 := kp (HU2.out.below hC.bel)
  have HV3 := kp (HV2.out.below hC.bel)
  have HB3 := kp (HB2.out.trans (hC.bel.mono HB2.out.size))
  have HX3 := kp hC.box
  have HF3 : Hid ((wc0.heap.size ≠ gd ∧ wc0.heap.size ≠ gs) ∧ wc0.heap.size ≠ gd2 ∧ wc0.heap.size ≠ gs2) := kp (by have p1 := HU2.out.d.lt; have p2 := lt_of_heap HU2.out.s; have p3 := HV2.out.d.lt; have p4 := lt_of_heap HV2.out.s; omega)
  change Code.wp _ _ _ _ ((wc0.alloc (.cells z35 35)).setRow wc0.heap.size (Cmd.arr (wcmd p n1 x1) (.slice A1 n1 c1)))
  clear hC HU2 HV2 HB2
  generalize (wc0.alloc (.cells z35 35)).setRow wc0.heap.size (Cmd.arr (wcmd p n1 x1) (.slice A1 n1 c1)) = wd at *
  generalize wc0.heap.size = b14 at *
  go_upto_region 8 with (first
    | (refine wpList_store_row rfl 35 _ _ rfl wd.heap.size _ rfl rfl 35 _ (heap_alloc_new wd _) (by kernel_rfl) rfl (Wd.row_one _ _ _ _ _ _ _ _ _) ?_))
  have hC := Co.start wd (Cmd.arr (wcmd r n2 x2) (.slice A2 n2 c2))
  have HU4 := kp (HU3.out.below hC.bel)
  have HV4 := kp (HV3.out.below hC.bel)
  have HB4 := kp (HB3.out.trans (hC.bel.mono HB3.out.size))
  have HX14 := kp ((hC.bel.block b14 (lt_of_heap HX3.out)).trans HX3.out)
  have HX15 := kp hC.box
  have HF4 : Hid ((wd.heap.size ≠ gd ∧ wd.heap.size ≠ gs) ∧ wd.heap.size ≠ gd2 ∧ wd.heap.size ≠ gs2) := kp (by have p1 := HU3.out.d.lt; have p2 := lt_of_heap HU3.out.s; have p3 := HV3.out.d.lt; have p4 := lt_of_heap HV3.out.s; omega)
  change Code.wp _ _ _ _ ((wd.alloc (.cells z35 35)).setRow wd.heap.size (Cmd.arr (wcmd r n2 x2) (.slice A2 n2 c2)))
  clear hC HU3 HV3 HB3 HX3 hre hqe hq
  generalize (wd.alloc (.cells z35 35)).setRow wd.heap.size (Cmd.arr (wcmd r n2 x2) (.slice A2 n2 c2)) = we at *
  generalize wd.heap.size = b15 at *
  have HFU : Hid ((b14 ≠ gd ∧ b14 ≠ gs) ∧ (b15 ≠ gd ∧ b15 ≠ gs)) := kp ⟨HF3.out.1, HF4.out.1⟩
  have HFV : Hid ((b15 ≠ gd2 ∧ b15 ≠ gs2) ∧ (b14 ≠ gd2 ∧ b14 ≠ gs2)) := kp ⟨HF4.out.2, HF3.out.2⟩
  clear HF3 HF4
  obtain ⟨st1, se1, hst1⟩ : ∃ st se, (if wok n1 p 60 then ((1 : Int), (0 : Int)) else (2, 5)) = (st, se) := ⟨_, _, rfl⟩
  obtain ⟨st2, se2, hst2⟩ : ∃ st se, (if wok n2 r 60 then ((1 : Int), (0 : Int)) else (2, 5)) = (st, se) := ⟨_, _, rfl⟩
  have HD1 := kp (wdo60 (ini := 1) ⟨by decide, by decide⟩ p n1 x1 st1 se1 hst1)
  have HD2 := kp (wdo60 (ini := 2) ⟨by decide, by decide⟩ r n2 x2 st2 se2 hst2)
  have HST1 := kp hst1
  have HST2 := kp hst2
  clear hst1 hst2
  simp only [Act.put]
  go_cut [16, 17] (fun v16 v17 wx => ∃ b16 b17 Da Ea Db Eb, v16 = .pointer (some ⟨b16, 0, none⟩) ∧ v17 = .pointer (some ⟨b17, 0, none⟩) ∧ wx.heap[b16]? = some (.cells #[.int .i64 st1, .int .i64 se1, .slice Da 0 Ea] 31 (0, 0)) ∧ wx.heap[b17]? = some (.cells #[.int .i64 st2, .int .i64 se2, .slice Db 0 Eb] 31 (0, 0)) ∧ (∀ W, Rd W (.slice Da 0 Ea) 0 16 (u8s [])) ∧ (∀ W, Rd W (.slice Db 0 Eb) 0 16 (u8s [])) ∧ HasU wx g gd gs Dk.new 60 (if wok n2 r 60 then splice (if wok n1 p 60 then splice (List.replicate (60 * 16) 0) (p * 16) x1 else List.replicate (60 * 16) 0) (r * 16) x2 else (if wok n1 p 60 then splice (List.replicate (60 * 16) 0) (p * 16) x1 else List.replicate (60 * 16) 0)) ∧ Only [gd, gs] we wx ∧ Below w.heap.size w wx)
  case first =>
    as_aux_lemma =>
      refine wp_region_held_drew (S := (fun W => W.heap[b14]? = some (.cells (Cmd.arr (wcmd p n1 x1) (.slice A1 n1 c1)) 35 (0, 0)) ∧ W.heap[b15]? = some (.cells (Cmd.arr (wcmd r n2 x2) (.slice A2 n2 c2)) 35 (0, 0)))) (by kernel_rfl) ⟨HX14.out, HX15.out⟩ (fun hS => ?_)
      generalize hw0 : World.drew _ = wS at *
      have HA0 : Hid (Ap w wS wS g gd gs (List.replicate (60 * 16) 0)) := kp (by rw [← hw0]; exact ⟨HU4.out.below (Below.refl _ _).drew, Only.refl _ _, Wd.bdrew HB4.out, HB4.out.size, ⟨lt_of_heap HU4.out.u, HU4.out.d.lt, lt_of_heap HU4.out.s⟩⟩)
      have HSP : Hid (∀ W, Only [gd, gs] wS W → (fun W => W.heap[b14]? = some (.cells (Cmd.arr (wcmd p n1 x1) (.slice A1 n1 c1)) 35 (0, 0)) ∧ W.heap[b15]? = some (.cells (Cmd.arr (wcmd r n2 x2) (.slice A2 n2 c2)) 35 (0, 0))) W) := kp (fun W hW => ⟨(hW.block _ (lt_of_heap hS.1) (by have := HFU.out; simp; omega)).trans hS.1, (hW.block _ (lt_of_heap hS.2) (by have := HFU.out; simp; omega)).trans hS.2⟩)
      have HWO : Hid (∀ W, Only [gd, gs] wS W → Only [gd, gs] we W) := kp (fun W h => by rw [← hw0] at h; exact ((Only.refl _ _).drew_).trans h (fun _ h => .inl h))
      have HC1 := kp (ap_do g gd gs 1 (wcmd p n1 x1) (List.replicate (60 * 16) 0) HD1.out)
      have HC3 := kp (ap_do g gd gs 2 (wcmd r n2 x2) (if wok n1 p 60 then splice (List.replicate (60 * 16) 0) (p * 16) x1 else List.replicate (60 * 16) 0) HD2.out)
      clear hw0
      refine wpAnyH_take (i := 0) (v := ?_) rfl (by kernel_rfl) (by kernel_rfl) (by kernel_rfl) (fun _ _ _ h => h) (Or.inl ⟨by rfl, ?_⟩) hS ?_
      rotate_left
      · intro w' hSw; go_simp; try rfl
      try simp only [Act.put,List.getElem_toArray,List.getElem_cons_succ,List.getElem_cons_zero,List.setIfInBounds_toArray,List.set_cons_zero,List.set_cons_succ]
      refine wpAnyH_take (i := 1) (v := .agg (Cmd.arr (wcmd p n1 x1) (.slice A1 n1 c1))) rfl (by kernel_rfl) (by kernel_rfl) (by kernel_rfl) (fun _ _ _ h => h) (Or.inl ⟨by rfl, fun w' hSw => ?_⟩) hS ?_
      · exact exec_row35 _ rfl b14 rfl _ _ hSw.1
      try simp only [Act.put,List.getElem_toArray,List.getElem_cons_succ,List.getElem_cons_zero,List.setIfInBounds_toArray,List.set_cons_zero,List.set_cons_succ]
      refine wpAnyH_take (i := 4) (v := ?_) rfl (by kernel_rfl) (by kernel_rfl) (by kernel_rfl) (fun _ _ _ h => h) (Or.inl ⟨by rfl, ?_⟩) hS ?_
      rotate_left
      · intro w' hSw; go_simp; try rfl
      try simp only [Act.put,List.getElem_toArray,List.getElem_cons_succ,List.getElem_cons_zero,List.setIfInBounds_toArray,List.set_cons_zero,List.set_cons_succ]
      refine wpAnyH_take (i := 5) (v := .agg (Cmd.arr (wcmd r n2 x2) (.slice A2 n2 c2))) rfl (by kernel_rfl) (by kernel_rfl) (by kernel_rfl) (fun _ _ _ h => h) (Or.inl ⟨by rfl, fun w' hSw => ?_⟩) hS ?_
      · exact exec_row35 _ rfl b15 rfl _ _ hSw.2
      try simp only [Act.put,List.getElem_toArray,List.getElem_cons_succ,List.getElem_cons_zero,List.setIfInBounds_toArray,List.set_cons_zero,List.set_cons_succ]
      clear hS
      refine rdn [2, 8, 9] (by kernel_rfl) (by simp) ?_
      refine arc rfl (fun K hK => ?_) ?_
      · as_aux_lemma =>
         go_simp
         refine (Wd.own_any (wcmd p n1 x1) (.slice A1 n1 c1) wS (H1.out.below HA0.out.b) HL1.out).mono ?_
         rintro e W1 ⟨ov1, rfl, ho, hb⟩
         have HA1 := kp (HA0.out.bel hb)
         have HV1 : Hid (Wd.Secs W1 ov1 (wcmd p n1 x1)) := kp (Wd.Own.secs ho)
         clear ho hb HA0 
         go_wp2_with (fail)
         refine hK.out _ _ (HSP.out _ HA1.out.o) (fun hS => ?_)
         clear hK K
         try simp only [Act.put,List.getElem_toArray,List.getElem_cons_succ,List.getElem_cons_zero,List.setIfInBounds_toArray,List.set_cons_zero,List.set_cons_succ]
         clear hS
         refine rdn [3, 8, 9] (by kernel_rfl) (by simp) ?_
         refine arc rfl (fun K hK => ?_) ?_
         · as_aux_lemma =>
            go_simp
            refine (HC1.out _ _ HA1.out.u HV1.out).mono ?_
            rintro e W2 ⟨dvr, rfl, ho, hu, hf⟩
            have HR2 := kp (rd0 ho)
            obtain ⟨D2, E2, rfl, -, -⟩ := Wd.own_form ho
            have HA2 := kp (HA1.out.do_ HGW.out hu hf)
            clear ho hu hf HA1 HV1 
            go_wp2_with (fail)
            refine hK.out _ _ (HSP.out _ HA2.out.o) (fun hS => ?_)
            clear hK K
            try simp only [Act.put,List.getElem_toArray,List.getElem_cons_succ,List.getElem_cons_zero,List.setIfInBounds_toArray,List.set_cons_zero,List.set_cons_succ]
            clear hS
            refine rdn [6, 8, 9] (by kernel_rfl) (by simp) ?_
            refine arc rfl (fun K hK => ?_) ?_
            · as_aux_lemma =>
               go_simp
               refine (Wd.own_any (wcmd r n2 x2) (.slice A2 n2 c2) W2 (H2.out.below HA2.out.b) HL2.out).mono ?_
               rintro e W3 ⟨ov3, rfl, ho, hb⟩
               have HA3 := kp (HA2.out.bel hb)
               have HV3 : Hid (Wd.Secs W3 ov3 (wcmd r n2 x2)) := kp (Wd.Own.secs ho)
               clear ho hb HA2 
               go_wp2_with (fail)
               refine hK.out _ _ (HSP.out _ HA3.out.o) (fun hS => ?_)
               clear hK K
               try simp only [Act.put,List.getElem_toArray,List.getElem_cons_succ,List.getElem_cons_zero,List.setIfInBounds_toArray,List.set_cons_zero,List.set_cons_succ]
               clear hS
               refine rdn [7, 8, 9] (by kernel_rfl) (by simp) ?_
               refine arc rfl (fun K hK => ?_) ?_
               · as_aux_lemma =>
                  go_simp
                  refine (HC3.out _ _ HA3.out.u HV3.out).mono ?_
                  rintro e W4 ⟨dvr, rfl, ho, hu, hf⟩
                  have HR4 := kp (rd0 ho)
                  obtain ⟨D4, E4, rfl, -, -⟩ := Wd.own_form ho
                  have HA4 := kp (HA3.out.do_ HGW.out hu hf)
                  clear ho hu hf HA3 HV3 
                  go_wp2_with (fail)
                  refine hK.out _ _ (HSP.out _ HA4.out.o) (fun hS => ?_)
                  clear hK K
                  try simp only [Act.put,List.getElem_toArray,List.getElem_cons_succ,List.getElem_cons_zero,List.setIfInBounds_toArray,List.set_cons_zero,List.set_cons_succ]
                  clear hS
                  refine rdn [8, 9] (by kernel_rfl) (by simp) ?_
                  refine arc rfl (fun K hK => ?_) ?_
                  · as_aux_lemma =>
                     have ha := fun o => HA4.out.bel (balloc W4 o)
                     go_simp
                     refine hK.out _ _ (HSP.out _ (ha _).o) (fun hS => ?_)
                     clear hK K
                     try simp only [Act.put,List.getElem_toArray,List.getElem_cons_succ,List.getElem_cons_zero,List.setIfInBounds_toArray,List.set_cons_zero,List.set_cons_succ]
                     clear hS
                     change wpAnyH _ _ _ _ _ _ _ _ (W4.alloc (.cells (rep 0 0) 31))
                     have HA5 := kp (ha (.cells (rep 0 0) 31))
                     have HP5_8 := kp (Bp.new HA4.out)
                     clear ha HA4  
                     generalize W4.heap.size = bb5 at *
                     generalize W4.alloc (.cells (rep 0 0) 31) = W5 at *
                     refine rd1 (i := 9) (by kernel_rfl) rfl (fun K hK => ?_)
                     have ha := fun o => HA5.out.bel (balloc W5 o)
                     go_simp
                     refine hK.out _ _ (HSP.out _ (ha _).o) (fun hS => ?_)
                     clear hK K
                     try simp only [Act.put,List.getElem_toArray,List.getElem_cons_succ,List.getElem_cons_zero,List.setIfInBounds_toArray,List.set_cons_zero,List.set_cons_succ]
                     clear hS
                     change wpAnyH _ _ _ _ _ _ _ _ (W5.alloc (.cells (rep 0 0) 31))
                     have HA6 := kp (ha (.cells (rep 0 0) 31))
                     have HP6_9 := kp (Bp.new HA5.out)
                     have HP6_8 := kp (HP5_8.out.bel (balloc W5 (.cells (rep 0 0) 31)))
                     have HNE := kp (Nat.ne_of_lt HP5_8.out.lt)
                     clear ha HA5 HP5_8 
                     generalize W5.heap.size = bb6 at *
                     generalize W5.alloc (.cells (rep 0 0) 31) = W6 at *
                     have X := kp (ap_end HA6.out HP6_8.out HP6_9.out HNE.out (ro st1 se1 D2 E2) (ro st2 se2 D4 E4))
                     refine rd1 (i := 10) (by kernel_rfl) rfl (fun K hK => ?_)
                     rw [if_pos (by rfl)]
                     refine wp_store_row 31 _ _ rfl bb5 (ro st1 se1 D2 E2) rfl rfl 31 _ HP6_8.out.box (by kernel_rfl) rfl (ro1 _ _ _ _) ?_
                     refine hK.out _ _ (HSP.out _ X.out.2.1.o) (fun hS => ?_)
                     clear hK K
                     try simp only [Act.put,List.getElem_toArray,List.getElem_cons_succ,List.getElem_cons_zero,List.setIfInBounds_toArray,List.set_cons_zero,List.set_cons_succ]
                     refine rd1 (i := 11) (by kernel_rfl) rfl (fun K hK => ?_)
                     rw [if_pos (by rfl)]
                     refine wp_store_row 31 _ _ rfl bb6 (ro st2 se2 D4 E4) rfl rfl 31 _ X.out.1 (by kernel_rfl) rfl (ro1 _ _ _ _) ?_
                     refine hK.out _ _ (HSP.out _ X.out.2.2.1.o) (fun hS => ?_)
                     clear hK K
                     try simp only [Act.put,List.getElem_toArray,List.getElem_cons_succ,List.getElem_cons_zero,List.setIfInBounds_toArray,List.set_cons_zero,List.set_cons_succ]
                     refine wpAnyH_done (by kernel_rfl) ?_ _
                     go_wp2_with (fail)
                     go_meet
                     exact ⟨bb5, bb6, D2, E2, D4, E4, rfl, rfl, X.out.2.2.2.1, X.out.2.2.2.2, HR2.out, HR4.out, X.out.2.2.1.u, HWO.out _ X.out.2.2.1.o, X.out.2.2.1.b⟩
                  refine arn rfl (fun K hK => ?_)
                  have ha := fun o => HA4.out.bel (balloc W4 o)
                  go_simp
                  refine hK.out _ _ (HSP.out _ (ha _).o) (fun hS => ?_)
                  clear hK K
                  try simp only [Act.put,List.getElem_toArray,List.getElem_cons_succ,List.getElem_cons_zero,List.setIfInBounds_toArray,List.set_cons_zero,List.set_cons_succ]
                  clear hS
                  change wpAnyH _ _ _ _ _ _ _ _ (W4.alloc (.cells (rep 0 0) 31))
                  have HA7 := kp (ha (.cells (rep 0 0) 31))
                  have HP7_9 := kp (Bp.new HA4.out)
                  clear ha HA4  
                  generalize W4.heap.size = bb7 at *
                  generalize W4.alloc (.cells (rep 0 0) 31) = W7 at *
                  refine rd1 (i := 8) (by kernel_rfl) rfl (fun K hK => ?_)
                  have ha := fun o => HA7.out.bel (balloc W7 o)
                  go_simp
                  refine hK.out _ _ (HSP.out _ (ha _).o) (fun hS => ?_)
                  clear hK K
                  try simp only [Act.put,List.getElem_toArray,List.getElem_cons_succ,List.getElem_cons_zero,List.setIfInBounds_toArray,List.set_cons_zero,List.set_cons_succ]
                  clear hS
                  change wpAnyH _ _ _ _ _ _ _ _ (W7.alloc (.cells (rep 0 0) 31))
                  have HA8 := kp (ha (.cells (rep 0 0) 31))
                  have HP8_8 := kp (Bp.new HA7.out)
                  have HP8_9 := kp (HP7_9.out.bel (balloc W7 (.cells (rep 0 0) 31)))
                  have HNE := kp (Nat.ne_of_lt HP7_9.out.lt)
                  clear ha HA7 HP7_9 
                  generalize W7.heap.size = bb8 at *
                  generalize W7.alloc (.cells (rep 0 0) 31) = W8 at *
                  have X := kp (ap_end HA8.out HP8_8.out HP8_9.out HNE.out.symm (ro st1 se1 D2 E2) (ro st2 se2 D4 E4))
                  refine rd1 (i := 10) (by kernel_rfl) rfl (fun K hK => ?_)
                  rw [if_pos (by rfl)]
                  refine wp_store_row 31 _ _ rfl bb8 (ro st1 se1 D2 E2) rfl rfl 31 _ HP8_8.out.box (by kernel_rfl) rfl (ro1 _ _ _ _) ?_
                  refine hK.out _ _ (HSP.out _ X.out.2.1.o) (fun hS => ?_)
                  clear hK K
                  try simp only [Act.put,List.getElem_toArray,List.getElem_cons_succ,List.getElem_cons_zero,List.setIfInBounds_toArray,List.set_cons_zero,List.set_cons_succ]
                  refine rd1 (i := 11) (by kernel_rfl) rfl (fun K hK => ?_)
                  rw [if_pos (by rfl)]
                  refine wp_store_row 31 _ _ rfl bb7 (ro st2 se2 D4 E4) rfl rfl 31 _ X.out.1 (by kernel_rfl) rfl (ro1 _ _ _ _) ?_
                  refine hK.out _ _ (HSP.out _ X.out.2.2.1.o) (fun hS => ?_)
                  clear hK K
                  try simp only [Act.put,List.getElem_toArray,List.getElem_cons_succ,List.getElem_cons_zero,List.setIfInBounds_toArray,List.set_cons_zero,List.set_cons_succ]
                  refine wpAnyH_done (by kernel_rfl) ?_ _
                  go_wp2_with (fail)
                  go_meet
                  exact ⟨bb8, bb7, D2, E2, D4, E4, rfl, rfl, X.out.2.2.2.1, X.out.2.2.2.2, HR2.out, HR4.out, X.out.2.2.1.u, HWO.out _ X.out.2.2.1.o, X.out.2.2.1.b⟩
               refine arc rfl (fun K hK => ?_) ?_
               · as_aux_lemma =>
                  have ha := fun o => HA3.out.bel (balloc W3 o)
                  go_simp
                  refine hK.out _ _ (HSP.out _ (ha _).o) (fun hS => ?_)
                  clear hK K
                  try simp only [Act.put,List.getElem_toArray,List.getElem_cons_succ,List.getElem_cons_zero,List.setIfInBounds_toArray,List.set_cons_zero,List.set_cons_succ]
                  clear hS
                  change wpAnyH _ _ _ _ _ _ _ _ (W3.alloc (.cells (rep 0 0) 31))
                  have HA9 := kp (ha (.cells (rep 0 0) 31))
                  have HP9_8 := kp (Bp.new HA3.out)
                  have HV9 := kp (HV3.out.below (balloc W3 (.cells (rep 0 0) 31)))
                  clear ha HA3  HV3
                  generalize W3.heap.size = bb9 at *
                  generalize W3.alloc (.cells (rep 0 0) 31) = W9 at *
                  refine rdn [7, 9] (by kernel_rfl) (by simp) ?_
                  refine arc rfl (fun K hK => ?_) ?_
                  · as_aux_lemma =>
                     go_simp
                     refine (HC3.out _ _ HA9.out.u HV9.out).mono ?_
                     rintro e W10 ⟨dvr, rfl, ho, hu, hf⟩
                     have HR10 := kp (rd0 ho)
                     obtain ⟨D10, E10, rfl, -, -⟩ := Wd.own_form ho
                     have HA10 := kp (HA9.out.do_ HGW.out hu hf)
                     have HP10_8 := kp (HP9_8.out.do_ HA9.out.lt hf)
                     clear ho hu hf HA9 HV9 HP9_8
                     go_wp2_with (fail)
                     refine hK.out _ _ (HSP.out _ HA10.out.o) (fun hS => ?_)
                     clear hK K
                     try simp only [Act.put,List.getElem_toArray,List.getElem_cons_succ,List.getElem_cons_zero,List.setIfInBounds_toArray,List.set_cons_zero,List.set_cons_succ]
                     clear hS
                     refine rd1 (i := 9) (by kernel_rfl) rfl (fun K hK => ?_)
                     have ha := fun o => HA10.out.bel (balloc W10 o)
                     go_simp
                     refine hK.out _ _ (HSP.out _ (ha _).o) (fun hS => ?_)
                     clear hK K
                     try simp only [Act.put,List.getElem_toArray,List.getElem_cons_succ,List.getElem_cons_zero,List.setIfInBounds_toArray,List.set_cons_zero,List.set_cons_succ]
                     clear hS
                     change wpAnyH _ _ _ _ _ _ _ _ (W10.alloc (.cells (rep 0 0) 31))
                     have HA11 := kp (ha (.cells (rep 0 0) 31))
                     have HP11_9 := kp (Bp.new HA10.out)
                     have HP11_8 := kp (HP10_8.out.bel (balloc W10 (.cells (rep 0 0) 31)))
                     have HNE := kp (Nat.ne_of_lt HP10_8.out.lt)
                     clear ha HA10 HP10_8 
                     generalize W10.heap.size = bb11 at *
                     generalize W10.alloc (.cells (rep 0 0) 31) = W11 at *
                     have X := kp (ap_end HA11.out HP11_8.out HP11_9.out HNE.out (ro st1 se1 D2 E2) (ro st2 se2 D10 E10))
                     refine rd1 (i := 10) (by kernel_rfl) rfl (fun K hK => ?_)
                     rw [if_pos (by rfl)]
                     refine wp_store_row 31 _ _ rfl bb9 (ro st1 se1 D2 E2) rfl rfl 31 _ HP11_8.out.box (by kernel_rfl) rfl (ro1 _ _ _ _) ?_
                     refine hK.out _ _ (HSP.out _ X.out.2.1.o) (fun hS => ?_)
                     clear hK K
                     try simp only [Act.put,List.getElem_toArray,List.getElem_cons_succ,List.getElem_cons_zero,List.setIfInBounds_toArray,List.set_cons_zero,List.set_cons_succ]
                     refine rd1 (i := 11) (by kernel_rfl) rfl (fun K hK => ?_)
                     rw [if_pos (by rfl)]
                     refine wp_store_row 31 _ _ rfl bb11 (ro st2 se2 D10 E10) rfl rfl 31 _ X.out.1 (by kernel_rfl) rfl (ro1 _ _ _ _) ?_
                     refine hK.out _ _ (HSP.out _ X.out.2.2.1.o) (fun hS => ?_)
                     clear hK K
                     try simp only [Act.put,List.getElem_toArray,List.getElem_cons_succ,List.getElem_cons_zero,List.setIfInBounds_toArray,List.set_cons_zero,List.set_cons_succ]
                     refine wpAnyH_done (by kernel_rfl) ?_ _
                     go_wp2_with (fail)
                     go_meet
                     exact ⟨bb9, bb11, D2, E2, D10, E10, rfl, rfl, X.out.2.2.2.1, X.out.2.2.2.2, HR2.out, HR10.out, X.out.2.2.1.u, HWO.out _ X.out.2.2.1.o, X.out.2.2.1.b⟩
                  refine arn rfl (fun K hK => ?_)
                  have ha := fun o => HA9.out.bel (balloc W9 o)
                  go_simp
                  refine hK.out _ _ (HSP.out _ (ha _).o) (fun hS => ?_)
                  clear hK K
                  try simp only [Act.put,List.getElem_toArray,List.getElem_cons_succ,List.getElem_cons_zero,List.setIfInBounds_toArray,List.set_cons_zero,List.set_cons_succ]
                  clear hS
                  change wpAnyH _ _ _ _ _ _ _ _ (W9.alloc (.cells (rep 0 0) 31))
                  have HA12 := kp (ha (.cells (rep 0 0) 31))
                  have HP12_9 := kp (Bp.new HA9.out)
                  have HP12_8 := kp (HP9_8.out.bel (balloc W9 (.cells (rep 0 0) 31)))
                  have HNE := kp (Nat.ne_of_lt HP9_8.out.lt)
                  have HV12 := kp (HV9.out.below (balloc W9 (.cells (rep 0 0) 31)))
                  clear ha HA9 HP9_8 HV9
                  generalize W9.heap.size = bb12 at *
                  generalize W9.alloc (.cells (rep 0 0) 31) = W12 at *
                  refine rd1 (i := 7) (by kernel_rfl) rfl (fun K hK => ?_)
                  go_simp
                  refine (HC3.out _ _ HA12.out.u HV12.out).mono ?_
                  rintro e W13 ⟨dvr, rfl, ho, hu, hf⟩
                  have HR13 := kp (rd0 ho)
                  obtain ⟨D13, E13, rfl, -, -⟩ := Wd.own_form ho
                  have HA13 := kp (HA12.out.do_ HGW.out hu hf)
                  have HP13_9 := kp (HP12_9.out.do_ HA12.out.lt hf)
                  have HP13_8 := kp (HP12_8.out.do_ HA12.out.lt hf)
                  clear ho hu hf HA12 HV12 HP12_9 HP12_8
                  go_wp2_with (fail)
                  refine hK.out _ _ (HSP.out _ HA13.out.o) (fun hS => ?_)
                  clear hK K
                  try simp only [Act.put,List.getElem_toArray,List.getElem_cons_succ,List.getElem_cons_zero,List.setIfInBounds_toArray,List.set_cons_zero,List.set_cons_succ]
                  clear hS
                  have X := kp (ap_end HA13.out HP13_8.out HP13_9.out HNE.out (ro st1 se1 D2 E2) (ro st2 se2 D13 E13))
                  refine rd1 (i := 10) (by kernel_rfl) rfl (fun K hK => ?_)
                  rw [if_pos (by rfl)]
                  refine wp_store_row 31 _ _ rfl bb9 (ro st1 se1 D2 E2) rfl rfl 31 _ HP13_8.out.box (by kernel_rfl) rfl (ro1 _ _ _ _) ?_
                  refine hK.out _ _ (HSP.out _ X.out.2.1.o) (fun hS => ?_)
                  clear hK K
                  try simp only [Act.put,List.getElem_toArray,List.getElem_cons_succ,List.getElem_cons_zero,List.setIfInBounds_toArray,List.set_cons_zero,List.set_cons_succ]
                  refine rd1 (i := 11) (by kernel_rfl) rfl (fun K hK => ?_)
                  rw [if_pos (by rfl)]
                  refine wp_store_row 31 _ _ rfl bb12 (ro st2 se2 D13 E13) rfl rfl 31 _ X.out.1 (by kernel_rfl) rfl (ro1 _ _ _ _) ?_
                  refine hK.out _ _ (HSP.out _ X.out.2.2.1.o) (fun hS => ?_)
                  clear hK K
                  try simp only [Act.put,List.getElem_toArray,List.getElem_cons_succ,List.getElem_cons_zero,List.setIfInBounds_toArray,List.set_cons_zero,List.set_cons_succ]
                  refine wpAnyH_done (by kernel_rfl) ?_ _
                  go_wp2_with (fail)
                  go_meet
                  exact ⟨bb9, bb12, D2, E2, D13, E13, rfl, rfl, X.out.2.2.2.1, X.out.2.2.2.2, HR2.out, HR13.out, X.out.2.2.1.u, HWO.out _ X.out.2.2.1.o, X.out.2.2.1.b⟩
               refine arn rfl (fun K hK => ?_)
               have ha := fun o => HA3.out.bel (balloc W3 o)
               go_simp
               refine hK.out _ _ (HSP.out _ (ha _).o) (fun hS => ?_)
               clear hK K
               try simp only [Act.put,List.getElem_toArray,List.getElem_cons_succ,List.getElem_cons_zero,List.setIfInBounds_toArray,List.set_cons_zero,List.set_cons_succ]
               clear hS
               change wpAnyH _ _ _ _ _ _ _ _ (W3.alloc (.cells (rep 0 0) 31))
               have HA14 := kp (ha (.cells (rep 0 0) 31))
               have HP14_9 := kp (Bp.new HA3.out)
               have HV14 := kp (HV3.out.below (balloc W3 (.cells (rep 0 0) 31)))
               clear ha HA3  HV3
               generalize W3.heap.size = bb14 at *
               generalize W3.alloc (.cells (rep 0 0) 31) = W14 at *
               refine rdn [7, 8] (by kernel_rfl) (by simp) ?_
               refine arc rfl (fun K hK => ?_) ?_
               · as_aux_lemma =>
                  go_simp
                  refine (HC3.out _ _ HA14.out.u HV14.out).mono ?_
                  rintro e W15 ⟨dvr, rfl, ho, hu, hf⟩
                  have HR15 := kp (rd0 ho)
                  obtain ⟨D15, E15, rfl, -, -⟩ := Wd.own_form ho
                  have HA15 := kp (HA14.out.do_ HGW.out hu hf)
                  have HP15_9 := kp (HP14_9.out.do_ HA14.out.lt hf)
                  clear ho hu hf HA14 HV14 HP14_9
                  go_wp2_with (fail)
                  refine hK.out _ _ (HSP.out _ HA15.out.o) (fun hS => ?_)
                  clear hK K
                  try simp only [Act.put,List.getElem_toArray,List.getElem_cons_succ,List.getElem_cons_zero,List.setIfInBounds_toArray,List.set_cons_zero,List.set_cons_succ]
                  clear hS
                  refine rd1 (i := 8) (by kernel_rfl) rfl (fun K hK => ?_)
                  have ha := fun o => HA15.out.bel (balloc W15 o)
                  go_simp
                  refine hK.out _ _ (HSP.out _ (ha _).o) (fun hS => ?_)
                  clear hK K
                  try simp only [Act.put,List.getElem_toArray,List.getElem_cons_succ,List.getElem_cons_zero,List.setIfInBounds_toArray,List.set_cons_zero,List.set_cons_succ]
                  clear hS
                  change wpAnyH _ _ _ _ _ _ _ _ (W15.alloc (.cells (rep 0 0) 31))
                  have HA16 := kp (ha (.cells (rep 0 0) 31))
                  have HP16_8 := kp (Bp.new HA15.out)
                  have HP16_9 := kp (HP15_9.out.bel (balloc W15 (.cells (rep 0 0) 31)))
                  have HNE := kp (Nat.ne_of_lt HP15_9.out.lt)
                  clear ha HA15 HP15_9 
                  generalize W15.heap.size = bb16 at *
                  generalize W15.alloc (.cells (rep 0 0) 31) = W16 at *
                  have X := kp (ap_end HA16.out HP16_8.out HP16_9.out HNE.out.symm (ro st1 se1 D2 E2) (ro st2 se2 D15 E15))
                  refine rd1 (i := 10) (by kernel_rfl) rfl (fun K hK => ?_)
                  rw [if_pos (by rfl)]
                  refine wp_store_row 31 _ _ rfl bb16 (ro st1 se1 D2 E2) rfl rfl 31 _ HP16_8.out.box (by kernel_rfl) rfl (ro1 _ _ _ _) ?_
                  refine hK.out _ _ (HSP.out _ X.out.2.1.o) (fun hS => ?_)
                  clear hK K
                  try simp only [Act.put,List.getElem_toArray,List.getElem_cons_succ,List.getElem_cons_zero,List.setIfInBounds_toArray,List.set_cons_zero,List.set_cons_succ]
                  refine rd1 (i := 11) (by kernel_rfl) rfl (fun K hK => ?_)
                  rw [if_pos (by rfl)]
                  refine wp_store_row 31 _ _ rfl bb14 (ro st2 se2 D15 E15) rfl rfl 31 _ X.out.1 (by kernel_rfl) rfl (ro1 _ _ _ _) ?_
                  refine hK.out _ _ (HSP.out _ X.out.2.2.1.o) (fun hS => ?_)
                  clear hK K
                  try simp only [Act.put,List.getElem_toArray,List.getElem_cons_succ,List.getElem_cons_zero,List.setIfInBounds_toArray,List.set_cons_zero,List.set_cons_succ]
                  refine wpAnyH_done (by kernel_rfl) ?_ _
                  go_wp2_with (fail)
                  go_meet
                  exact ⟨bb16, bb14, D2, E2, D15, E15, rfl, rfl, X.out.2.2.2.1, X.out.2.2.2.2, HR2.out, HR15.out, X.out.2.2.1.u, HWO.out _ X.out.2.2.1.o, X.out.2.2.1.b⟩
               refine arn rfl (fun K hK => ?_)
               have ha := fun o => HA14.out.bel (balloc W14 o)
               go_simp
               refine hK.out _ _ (HSP.out _ (ha _).o) (fun hS => ?_)
               clear hK K
               try simp only [Act.put,List.getElem_toArray,List.getElem_cons_succ,List.getElem_cons_zero,List.setIfInBounds_toArray,List.set_cons_zero,List.set_cons_succ]
               clear hS
               change wpAnyH _ _ _ _ _ _ _ _ (W14.alloc (.cells (rep 0 0) 31))
               have HA17 := kp (ha (.cells (rep 0 0) 31))
               have HP17_8 := kp (Bp.new HA14.out)
               have HP17_9 := kp (HP14_9.out.bel (balloc W14 (.cells (rep 0 0) 31)))
               have HNE := kp (Nat.ne_of_lt HP14_9.out.lt)
               have HV17 := kp (HV14.out.below (balloc W14 (.cells (rep 0 0) 31)))
               clear ha HA14 HP14_9 HV14
               generalize W14.heap.size = bb17 at *
               generalize W14.alloc (.cells (rep 0 0) 31) = W17 at *
               refine rd1 (i := 7) (by kernel_rfl) rfl (fun K hK => ?_)
               go_simp
               refine (HC3.out _ _ HA17.out.u HV17.out).mono ?_
               rintro e W18 ⟨dvr, rfl, ho, hu, hf⟩
               have HR18 := kp (rd0 ho)
               obtain ⟨D18, E18, rfl, -, -⟩ := Wd.own_form ho
               have HA18 := kp (HA17.out.do_ HGW.out hu hf)
               have HP18_8 := kp (HP17_8.out.do_ HA17.out.lt hf)
               have HP18_9 := kp (HP17_9.out.do_ HA17.out.lt hf)
               clear ho hu hf HA17 HV17 HP17_8 HP17_9
               go_wp2_with (fail)
               refine hK.out _ _ (HSP.out _ HA18.out.o) (fun hS => ?_)
               clear hK K
               try simp only [Act.put,List.getElem_toArray,List.getElem_cons_succ,List.getElem_cons_zero,List.setIfInBounds_toArray,List.set_cons_zero,List.set_cons_succ]
               clear hS
               have X := kp (ap_end HA18.out HP18_8.out HP18_9.out HNE.out.symm (ro st1 se1 D2 E2) (ro st2 se2 D18 E18))
               refine rd1 (i := 10) (by kernel_rfl) rfl (fun K hK => ?_)
               rw [if_pos (by rfl)]
               refine wp_store_row 31 _ _ rfl bb17 (ro st1 se1 D2 E2) rfl rfl 31 _ HP18_8.out.box (by kernel_rfl) rfl (ro1 _ _ _ _) ?_
               refine hK.out _ _ (HSP.out _ X.out.2.1.o) (fun hS => ?_)
               clear hK K
               try simp only [Act.put,List.getElem_toArray,List.getElem_cons_succ,List.getElem_cons_zero,List.setIfInBounds_toArray,List.set_cons_zero,List.set_cons_succ]
               refine rd1 (i := 11) (by kernel_rfl) rfl (fun K hK => ?_)
               rw [if_pos (by rfl)]
               refine wp_store_row 31 _ _ rfl bb14 (ro st2 se2 D18 E18) rfl rfl 31 _ X.out.1 (by kernel_rfl) rfl (ro1 _ _ _ _) ?_
               refine hK.out _ _ (HSP.out _ X.out.2.2.1.o) (fun hS => ?_)
               clear hK K
               try simp only [Act.put,List.getElem_toArray,List.getElem_cons_succ,List.getElem_cons_zero,List.setIfInBounds_toArray,List.set_cons_zero,List.set_cons_succ]
               refine wpAnyH_done (by kernel_rfl) ?_ _
               go_wp2_with (fail)
               go_meet
               exact ⟨bb17, bb14, D2, E2, D18, E18, rfl, rfl, X.out.2.2.2.1, X.out.2.2.2.2, HR2.out, HR18.out, X.out.2.2.1.u, HWO.out _ X.out.2.2.1.o, X.out.2.2.1.b⟩
            refine arc rfl (fun K hK => ?_) ?_
            · as_aux_lemma =>
               have ha := fun o => HA2.out.bel (balloc W2 o)
               go_simp
               refine hK.out _ _ (HSP.out _ (ha _).o) (fun hS => ?_)
               clear hK K
               try simp only [Act.put,List.getElem_toArray,List.getElem_cons_succ,List.getElem_cons_zero,List.setIfInBounds_toArray,List.set_cons_zero,List.set_cons_succ]
               clear hS
               change wpAnyH _ _ _ _ _ _ _ _ (W2.alloc (.cells (rep 0 0) 31))
               have HA19 := kp (ha (.cells (rep 0 0) 31))
               have HP19_8 := kp (Bp.new HA2.out)
               clear ha HA2  
               generalize W2.heap.size = bb19 at *
               generalize W2.alloc (.cells (rep 0 0) 31) = W19 at *
               refine rdn [6, 9] (by kernel_rfl) (by simp) ?_
               refine arc rfl (fun K hK => ?_) ?_
               · as_aux_lemma =>
                  go_simp
                  refine (Wd.own_any (wcmd r n2 x2) (.slice A2 n2 c2) W19 (H2.out.below HA19.out.b) HL2.out).mono ?_
                  rintro e W20 ⟨ov20, rfl, ho, hb⟩
                  have HA20 := kp (HA19.out.bel hb)
                  have HV20 : Hid (Wd.Secs W20 ov20 (wcmd r n2 x2)) := kp (Wd.Own.secs ho)
                  have HP20_8 := kp (HP19_8.out.bel hb)
                  clear ho hb HA19 HP19_8
                  go_wp2_with (fail)
                  refine hK.out _ _ (HSP.out _ HA20.out.o) (fun hS => ?_)
                  clear hK K
                  try simp only [Act.put,List.getElem_toArray,List.getElem_cons_succ,List.getElem_cons_zero,List.setIfInBounds_toArray,List.set_cons_zero,List.set_cons_succ]
                  clear hS
                  refine rdn [7, 9] (by kernel_rfl) (by simp) ?_
                  refine arc rfl (fun K hK => ?_) ?_
                  · as_aux_lemma =>
                     go_simp
                     refine (HC3.out _ _ HA20.out.u HV20.out).mono ?_
                     rintro e W21 ⟨dvr, rfl, ho, hu, hf⟩
                     have HR21 := kp (rd0 ho)
                     obtain ⟨D21, E21, rfl, -, -⟩ := Wd.own_form ho
                     have HA21 := kp (HA20.out.do_ HGW.out hu hf)
                     have HP21_8 := kp (HP20_8.out.do_ HA20.out.lt hf)
                     clear ho hu hf HA20 HV20 HP20_8
                     go_wp2_with (fail)
                     refine hK.out _ _ (HSP.out _ HA21.out.o) (fun hS => ?_)
                     clear hK K
                     try simp only [Act.put,List.getElem_toArray,List.getElem_cons_succ,List.getElem_cons_zero,List.setIfInBounds_toArray,List.set_cons_zero,List.set_cons_succ]
                     clear hS
                     refine rd1 (i := 9) (by kernel_rfl) rfl (fun K hK => ?_)
                     have ha := fun o => HA21.out.bel (balloc W21 o)
                     go_simp
                     refine hK.out _ _ (HSP.out _ (ha _).o) (fun hS => ?_)
                     clear hK K
                     try simp only [Act.put,List.getElem_toArray,List.getElem_cons_succ,List.getElem_cons_zero,List.setIfInBounds_toArray,List.set_cons_zero,List.set_cons_succ]
                     clear hS
                     change wpAnyH _ _ _ _ _ _ _ _ (W21.alloc (.cells (rep 0 0) 31))
                     have HA22 := kp (ha (.cells (rep 0 0) 31))
                     have HP22_9 := kp (Bp.new HA21.out)
                     have HP22_8 := kp (HP21_8.out.bel (balloc W21 (.cells (rep 0 0) 31)))
                     have HNE := kp (Nat.ne_of_lt HP21_8.out.lt)
                     clear ha HA21 HP21_8 
                     generalize W21.heap.size = bb22 at *
                     generalize W21.alloc (.cells (rep 0 0) 31) = W22 at *
                     have X := kp (ap_end HA22.out HP22_8.out HP22_9.out HNE.out (ro st1 se1 D2 E2) (ro st2 se2 D21 E21))
                     refine rd1 (i := 10) (by kernel_rfl) rfl (fun K hK => ?_)
                     rw [if_pos (by rfl)]
                     refine wp_store_row 31 _ _ rfl bb19 (ro st1 se1 D2 E2) rfl rfl 31 _ HP22_8.out.box (by kernel_rfl) rfl (ro1 _ _ _ _) ?_
                     refine hK.out _ _ (HSP.out _ X.out.2.1.o) (fun hS => ?_)
                     clear hK K
                     try simp only [Act.put,List.getElem_toArray,List.getElem_cons_succ,List.getElem_cons_zero,List.setIfInBounds_toArray,List.set_cons_zero,List.set_cons_succ]
                     refine rd1 (i := 11) (by kernel_rfl) rfl (fun K hK => ?_)
                     rw [if_pos (by rfl)]
                     refine wp_store_row 31 _ _ rfl bb22 (ro st2 se2 D21 E21) rfl rfl 31 _ X.out.1 (by kernel_rfl) rfl (ro1 _ _ _ _) ?_
                     refine hK.out _ _ (HSP.out _ X.out.2.2.1.o) (fun hS => ?_)
                     clear hK K
                     try simp only [Act.put,List.getElem_toArray,List.getElem_cons_succ,List.getElem_cons_zero,List.setIfInBounds_toArray,List.set_cons_zero,List.set_cons_succ]
                     refine wpAnyH_done (by kernel_rfl) ?_ _
                     go_wp2_with (fail)
                     go_meet
                     exact ⟨bb19, bb22, D2, E2, D21, E21, rfl, rfl, X.out.2.2.2.1, X.out.2.2.2.2, HR2.out, HR21.out, X.out.2.2.1.u, HWO.out _ X.out.2.2.1.o, X.out.2.2.1.b⟩
                  refine arn rfl (fun K hK => ?_)
                  have ha := fun o => HA20.out.bel (balloc W20 o)
                  go_simp
                  refine hK.out _ _ (HSP.out _ (ha _).o) (fun hS => ?_)
                  clear hK K
                  try simp only [Act.put,List.getElem_toArray,List.getElem_cons_succ,List.getElem_cons_zero,List.setIfInBounds_toArray,List.set_cons_zero,List.set_cons_succ]
                  clear hS
                  change wpAnyH _ _ _ _ _ _ _ _ (W20.alloc (.cells (rep 0 0) 31))
                  have HA23 := kp (ha (.cells (rep 0 0) 31))
                  have HP23_9 := kp (Bp.new HA20.out)
                  have HP23_8 := kp (HP20_8.out.bel (balloc W20 (.cells (rep 0 0) 31)))
                  have HNE := kp (Nat.ne_of_lt HP20_8.out.lt)
                  have HV23 := kp (HV20.out.below (balloc W20 (.cells (rep 0 0) 31)))
                  clear ha HA20 HP20_8 HV20
                  generalize W20.heap.size = bb23 at *
                  generalize W20.alloc (.cells (rep 0 0) 31) = W23 at *
                  refine rd1 (i := 7) (by kernel_rfl) rfl (fun K hK => ?_)
                  go_simp
                  refine (HC3.out _ _ HA23.out.u HV23.out).mono ?_
                  rintro e W24 ⟨dvr, rfl, ho, hu, hf⟩
                  have HR24 := kp (rd0 ho)
                  obtain ⟨D24, E24, rfl, -, -⟩ := Wd.own_form ho
                  have HA24 := kp (HA23.out.do_ HGW.out hu hf)
                  have HP24_9 := kp (HP23_9.out.do_ HA23.out.lt hf)
                  have HP24_8 := kp (HP23_8.out.do_ HA23.out.lt hf)
                  clear ho hu hf HA23 HV23 HP23_9 HP23_8
                  go_wp2_with (fail)
                  refine hK.out _ _ (HSP.out _ HA24.out.o) (fun hS => ?_)
                  clear hK K
                  try simp only [Act.put,List.getElem_toArray,List.getElem_cons_succ,List.getElem_cons_zero,List.setIfInBounds_toArray,List.set_cons_zero,List.set_cons_succ]
                  clear hS
                  have X := kp (ap_end HA24.out HP24_8.out HP24_9.out HNE.out (ro st1 se1 D2 E2) (ro st2 se2 D24 E24))
                  refine rd1 (i := 10) (by kernel_rfl) rfl (fun K hK => ?_)
                  rw [if_pos (by rfl)]
                  refine wp_store_row 31 _ _ rfl bb19 (ro st1 se1 D2 E2) rfl rfl 31 _ HP24_8.out.box (by kernel_rfl) rfl (ro1 _ _ _ _) ?_
                  refine hK.out _ _ (HSP.out _ X.out.2.1.o) (fun hS => ?_)
                  clear hK K
                  try simp only [Act.put,List.getElem_toArray,List.getElem_cons_succ,List.getElem_cons_zero,List.setIfInBounds_toArray,List.set_cons_zero,List.set_cons_succ]
                  refine rd1 (i := 11) (by kernel_rfl) rfl (fun K hK => ?_)
                  rw [if_pos (by rfl)]
                  refine wp_store_row 31 _ _ rfl bb23 (ro st2 se2 D24 E24) rfl rfl 31 _ X.out.1 (by kernel_rfl) rfl (ro1 _ _ _ _) ?_
                  refine hK.out _ _ (HSP.out _ X.out.2.2.1.o) (fun hS => ?_)
                  clear hK K
                  try simp only [Act.put,List.getElem_toArray,List.getElem_cons_succ,List.getElem_cons_zero,List.setIfInBounds_toArray,List.set_cons_zero,List.set_cons_succ]
                  refine wpAnyH_done (by kernel_rfl) ?_ _
                  go_wp2_with (fail)
                  go_meet
                  exact ⟨bb19, bb23, D2, E2, D24, E24, rfl, rfl, X.out.2.2.2.1, X.out.2.2.2.2, HR2.out, HR24.out, X.out.2.2.1.u, HWO.out _ X.out.2.2.1.o, X.out.2.2.1.b⟩
               refine arn rfl (fun K hK => ?_)
               have ha := fun o => HA19.out.bel (balloc W19 o)
               go_simp
               refine hK.out _ _ (HSP.out _ (ha _).o) (fun hS => ?_)
               clear hK K
               try simp only [Act.put,List.getElem_toArray,List.getElem_cons_succ,List.getElem_cons_zero,List.setIfInBounds_toArray,List.set_cons_zero,List.set_cons_succ]
               clear hS
               change wpAnyH _ _ _ _ _ _ _ _ (W19.alloc (.cells (rep 0 0) 31))
               have HA25 := kp (ha (.cells (rep 0 0) 31))
               have HP25_9 := kp (Bp.new HA19.out)
               have HP25_8 := kp (HP19_8.out.bel (balloc W19 (.cells (rep 0 0) 31)))
               have HNE := kp (Nat.ne_of_lt HP19_8.out.lt)
               clear ha HA19 HP19_8 
               generalize W19.heap.size = bb25 at *
               generalize W19.alloc (.cells (rep 0 0) 31) = W25 at *
               refine rd1 (i := 6) (by kernel_rfl) rfl (fun K hK => ?_)
               go_simp
               refine (Wd.own_any (wcmd r n2 x2) (.slice A2 n2 c2) W25 (H2.out.below HA25.out.b) HL2.out).mono ?_
               rintro e W26 ⟨ov26, rfl, ho, hb⟩
               have HA26 := kp (HA25.out.bel hb)
               have HV26 : Hid (Wd.Secs W26 ov26 (wcmd r n2 x2)) := kp (Wd.Own.secs ho)
               have HP26_9 := kp (HP25_9.out.bel hb)
               have HP26_8 := kp (HP25_8.out.bel hb)
               clear ho hb HA25 HP25_9 HP25_8
               go_wp2_with (fail)
               refine hK.out _ _ (HSP.out _ HA26.out.o) (fun hS => ?_)
               clear hK K
               try simp only [Act.put,List.getElem_toArray,List.getElem_cons_succ,List.getElem_cons_zero,List.setIfInBounds_toArray,List.set_cons_zero,List.set_cons_succ]
               clear hS
               refine rd1 (i := 7) (by kernel_rfl) rfl (fun K hK => ?_)
               go_simp
               refine (HC3.out _ _ HA26.out.u HV26.out).mono ?_
               rintro e W27 ⟨dvr, rfl, ho, hu, hf⟩
               have HR27 := kp (rd0 ho)
               obtain ⟨D27, E27, rfl, -, -⟩ := Wd.own_form ho
               have HA27 := kp (HA26.out.do_ HGW.out hu hf)
               have HP27_9 := kp (HP26_9.out.do_ HA26.out.lt hf)
               have HP27_8 := kp (HP26_8.out.do_ HA26.out.lt hf)
               clear ho hu hf HA26 HV26 HP26_9 HP26_8
               go_wp2_with (fail)
               refine hK.out _ _ (HSP.out _ HA27.out.o) (fun hS => ?_)
               clear hK K
               try simp only [Act.put,List.getElem_toArray,List.getElem_cons_succ,List.getElem_cons_zero,List.setIfInBounds_toArray,List.set_cons_zero,List.set_cons_succ]
               clear hS
               have X := kp (ap_end HA27.out HP27_8.out HP27_9.out HNE.out (ro st1 se1 D2 E2) (ro st2 se2 D27 E27))
               refine rd1 (i := 10) (by kernel_rfl) rfl (fun K hK => ?_)
               rw [if_pos (by rfl)]
               refine wp_store_row 31 _ _ rfl bb19 (ro st1 se1 D2 E2) rfl rfl 31 _ HP27_8.out.box (by kernel_rfl) rfl (ro1 _ _ _ _) ?_
               refine hK.out _ _ (HSP.out _ X.out.2.1.o) (fun hS => ?_)
               clear hK K
               try simp only [Act.put,List.getElem_toArray,List.getElem_cons_succ,List.getElem_cons_zero,List.setIfInBounds_toArray,List.set_cons_zero,List.set_cons_succ]
               refine rd1 (i := 11) (by kernel_rfl) rfl (fun K hK => ?_)
               rw [if_pos (by rfl)]
               refine wp_store_row 31 _ _ rfl bb25 (ro st2 se2 D27 E27) rfl rfl 31 _ X.out.1 (by kernel_rfl) rfl (ro1 _ _ _ _) ?_
               refine hK.out _ _ (HSP.out _ X.out.2.2.1.o) (fun hS => ?_)
               clear hK K
               try simp only [Act.put,List.getElem_toArray,List.getElem_cons_succ,List.getElem_cons_zero,List.setIfInBounds_toArray,List.set_cons_zero,List.set_cons_succ]
               refine wpAnyH_done (by kernel_rfl) ?_ _
               go_wp2_with (fail)
               go_meet
               exact ⟨bb19, bb25, D2, E2, D27, E27, rfl, rfl, X.out.2.2.2.1, X.out.2.2.2.2, HR2.out, HR27.out, X.out.2.2.1.u, HWO.out _ X.out.2.2.1.o, X.out.2.2.1.b⟩
            refine arn rfl (fun K hK => ?_)
            have ha := fun o => HA2.out.bel (balloc W2 o)
            go_simp
            refine hK.out _ _ (HSP.out _ (ha _).o) (fun hS => ?_)
            clear hK K
            try simp only [Act.put,List.getElem_toArray,List.getElem_cons_succ,List.getElem_cons_zero,List.setIfInBounds_toArray,List.set_cons_zero,List.set_cons_succ]
            clear hS
            change wpAnyH _ _ _ _ _ _ _ _ (W2.alloc (.cells (rep 0 0) 31))
            have HA28 := kp (ha (.cells (rep 0 0) 31))
            have HP28_9 := kp (Bp.new HA2.out)
            clear ha HA2  
            generalize W2.heap.size = bb28 at *
            generalize W2.alloc (.cells (rep 0 0) 31) = W28 at *
            refine rdn [6, 8] (by kernel_rfl) (by simp) ?_
            refine arc rfl (fun K hK => ?_) ?_
            · as_aux_lemma =>
               go_simp
               refine (Wd.own_any (wcmd r n2 x2) (.slice A2 n2 c2) W28 (H2.out.below HA28.out.b) HL2.out).mono ?_
               rintro e W29 ⟨ov29, rfl, ho, hb⟩
               have HA29 := kp (HA28.out.bel hb)
               have HV29 : Hid (Wd.Secs W29 ov29 (wcmd r n2 x2)) := kp (Wd.Own.secs ho)
               have HP29_9 := kp (HP28_9.out.bel hb)
               clear ho hb HA28 HP28_9
               go_wp2_with (fail)
               refine hK.out _ _ (HSP.out _ HA29.out.o) (fun hS => ?_)
               clear hK K
               try simp only [Act.put,List.getElem_toArray,List.getElem_cons_succ,List.getElem_cons_zero,List.setIfInBounds_toArray,List.set_cons_zero,List.set_cons_succ]
               clear hS
               refine rdn [7, 8] (by kernel_rfl) (by simp) ?_
               refine arc rfl (fun K hK => ?_) ?_
               · as_aux_lemma =>
                  go_simp
                  refine (HC3.out _ _ HA29.out.u HV29.out).mono ?_
                  rintro e W30 ⟨dvr, rfl, ho, hu, hf⟩
                  have HR30 := kp (rd0 ho)
                  obtain ⟨D30, E30, rfl, -, -⟩ := Wd.own_form ho
                  have HA30 := kp (HA29.out.do_ HGW.out hu hf)
                  have HP30_9 := kp (HP29_9.out.do_ HA29.out.lt hf)
                  clear ho hu hf HA29 HV29 HP29_9
                  go_wp2_with (fail)
                  refine hK.out _ _ (HSP.out _ HA30.out.o) (fun hS => ?_)
                  clear hK K
                  try simp only [Act.put,List.getElem_toArray,List.getElem_cons_succ,List.getElem_cons_zero,List.setIfInBounds_toArray,List.set_cons_zero,List.set_cons_succ]
                  clear hS
                  refine rd1 (i := 8) (by kernel_rfl) rfl (fun K hK => ?_)
                  have ha := fun o => HA30.out.bel (balloc W30 o)
                  go_simp
                  refine hK.out _ _ (HSP.out _ (ha _).o) (fun hS => ?_)
                  clear hK K
                  try simp only [Act.put,List.getElem_toArray,List.getElem_cons_succ,List.getElem_cons_zero,List.setIfInBounds_toArray,List.set_cons_zero,List.set_cons_succ]
                  clear hS
                  change wpAnyH _ _ _ _ _ _ _ _ (W30.alloc (.cells (rep 0 0) 31))
                  have HA31 := kp (ha (.cells (rep 0 0) 31))
                  have HP31_8 := kp (Bp.new HA30.out)
                  have HP31_9 := kp (HP30_9.out.bel (balloc W30 (.cells (rep 0 0) 31)))
                  have HNE := kp (Nat.ne_of_lt HP30_9.out.lt)
                  clear ha HA30 HP30_9 
                  generalize W30.heap.size = bb31 at *
                  generalize W30.alloc (.cells (rep 0 0) 31) = W31 at *
                  have X := kp (ap_end HA31.out HP31_8.out HP31_9.out HNE.out.symm (ro st1 se1 D2 E2) (ro st2 se2 D30 E30))
                  refine rd1 (i := 10) (by kernel_rfl) rfl (fun K hK => ?_)
                  rw [if_pos (by rfl)]
                  refine wp_store_row 31 _ _ rfl bb31 (ro st1 se1 D2 E2) rfl rfl 31 _ HP31_8.out.box (by kernel_rfl) rfl (ro1 _ _ _ _) ?_
                  refine hK.out _ _ (HSP.out _ X.out.2.1.o) (fun hS => ?_)
                  clear hK K
                  try simp only [Act.put,List.getElem_toArray,List.getElem_cons_succ,List.getElem_cons_zero,List.setIfInBounds_toArray,List.set_cons_zero,List.set_cons_succ]
                  refine rd1 (i := 11) (by kernel_rfl) rfl (fun K hK => ?_)
                  rw [if_pos (by rfl)]
                  refine wp_store_row 31 _ _ rfl bb28 (ro st2 se2 D30 E30) rfl rfl 31 _ X.out.1 (by kernel_rfl) rfl (ro1 _ _ _ _) ?_
                  refine hK.out _ _ (HSP.out _ X.out.2.2.1.o) (fun hS => ?_)
                  clear hK K
                  try simp only [Act.put,List.getElem_toArray,List.getElem_cons_succ,List.getElem_cons_zero,List.setIfInBounds_toArray,List.set_cons_zero,List.set_cons_succ]
                  refine wpAnyH_done (by kernel_rfl) ?_ _
                  go_wp2_with (fail)
                  go_meet
                  exact ⟨bb31, bb28, D2, E2, D30, E30, rfl, rfl, X.out.2.2.2.1, X.out.2.2.2.2, HR2.out, HR30.out, X.out.2.2.1.u, HWO.out _ X.out.2.2.1.o, X.out.2.2.1.b⟩
               refine arn rfl (fun K hK => ?_)
               have ha := fun o => HA29.out.bel (balloc W29 o)
               go_simp
               refine hK.out _ _ (HSP.out _ (ha _).o) (fun hS => ?_)
               clear hK K
               try simp only [Act.put,List.getElem_toArray,List.getElem_cons_succ,List.getElem_cons_zero,List.setIfInBounds_toArray,List.set_cons_zero,List.set_cons_succ]
               clear hS
               change wpAnyH _ _ _ _ _ _ _ _ (W29.alloc (.cells (rep 0 0) 31))
               have HA32 := kp (ha (.cells (rep 0 0) 31))
               have HP32_8 := kp (Bp.new HA29.out)
               have HP32_9 := kp (HP29_9.out.bel (balloc W29 (.cells (rep 0 0) 31)))
               have HNE := kp (Nat.ne_of_lt HP29_9.out.lt)
               have HV32 := kp (HV29.out.below (balloc W29 (.cells (rep 0 0) 31)))
               clear ha HA29 HP29_9 HV29
               generalize W29.heap.size = bb32 at *
               generalize W29.alloc (.cells (rep 0 0) 31) = W32 at *
               refine rd1 (i := 7) (by kernel_rfl) rfl (fun K hK => ?_)
               go_simp
               refine (HC3.out _ _ HA32.out.u HV32.out).mono ?_
               rintro e W33 ⟨dvr, rfl, ho, hu, hf⟩
               have HR33 := kp (rd0 ho)
               obtain ⟨D33, E33, rfl, -, -⟩ := Wd.own_form ho
               have HA33 := kp (HA32.out.do_ HGW.out hu hf)
               have HP33_8 := kp (HP32_8.out.do_ HA32.out.lt hf)
               have HP33_9 := kp (HP32_9.out.do_ HA32.out.lt hf)
               clear ho hu hf HA32 HV32 HP32_8 HP32_9
               go_wp2_with (fail)
               refine hK.out _ _ (HSP.out _ HA33.out.o) (fun hS => ?_)
               clear hK K
               try simp only [Act.put,List.getElem_toArray,List.getElem_cons_succ,List.getElem_cons_zero,List.setIfInBounds_toArray,List.set_cons_zero,List.set_cons_succ]
               clear hS
               have X := kp (ap_end HA33.out HP33_8.out HP33_9.out HNE.out.symm (ro st1 se1 D2 E2) (ro st2 se2 D33 E33))
               refine rd1 (i := 10) (by kernel_rfl) rfl (fun K hK => ?_)
               rw [if_pos (by rfl)]
               refine wp_store_row 31 _ _ rfl bb32 (ro st1 se1 D2 E2) rfl rfl 31 _ HP33_8.out.box (by kernel_rfl) rfl (ro1 _ _ _ _) ?_
               refine hK.out _ _ (HSP.out _ X.out.2.1.o) (fun hS => ?_)
               clear hK K
               try simp only [Act.put,List.getElem_toArray,List.getElem_cons_succ,List.getElem_cons_zero,List.setIfInBounds_toArray,List.set_cons_zero,List.set_cons_succ]
               refine rd1 (i := 11) (by kernel_rfl) rfl (fun K hK => ?_)
               rw [if_pos (by rfl)]
               refine wp_store_row 31 _ _ rfl bb28 (ro st2 se2 D33 E33) rfl rfl 31 _ X.out.1 (by kernel_rfl) rfl (ro1 _ _ _ _) ?_
               refine hK.out _ _ (HSP.out _ X.out.2.2.1.o) (fun hS => ?_)
               clear hK K
               try simp only [Act.put,List.getElem_toArray,List.getElem_cons_succ,List.getElem_cons_zero,List.setIfInBounds_toArray,List.set_cons_zero,List.set_cons_succ]
               refine wpAnyH_done (by kernel_rfl) ?_ _
               go_wp2_with (fail)
               go_meet
               exact ⟨bb32, bb28, D2, E2, D33, E33, rfl, rfl, X.out.2.2.2.1, X.out.2.2.2.2, HR2.out, HR33.out, X.out.2.2.1.u, HWO.out _ X.out.2.2.1.o, X.out.2.2.1.b⟩
            refine arn rfl (fun K hK => ?_)
            have ha := fun o => HA28.out.bel (balloc W28 o)
            go_simp
            refine hK.out _ _ (HSP.out _ (ha _).o) (fun hS => ?_)
            clear hK K
            try simp only [Act.put,List.getElem_toArray,List.getElem_cons_succ,List.getElem_cons_zero,List.setIfInBounds_toArray,List.set_cons_zero,List.set_cons_succ]
            clear hS
            change wpAnyH _ _ _ _ _ _ _ _ (W28.alloc (.cells (rep 0 0) 31))
            have HA34 := kp (ha (.cells (rep 0 0) 31))
            have HP34_8 := kp (Bp.new HA28.out)
            have HP34_9 := kp (HP28_9.out.bel (balloc W28 (.cells (rep 0 0) 31)))
            have HNE := kp (Nat.ne_of_lt HP28_9.out.lt)
            clear ha HA28 HP28_9 
            generalize W28.heap.size = bb34 at *
            generalize W28.alloc (.cells (rep 0 0) 31) = W34 at *
            refine rd1 (i := 6) (by kernel_rfl) rfl (fun K hK => ?_)
            go_simp
            refine (Wd.own_any (wcmd r n2 x2) (.slice A2 n2 c2) W34 (H2.out.below HA34.out.b) HL2.out).mono ?_
            rintro e W35 ⟨ov35, rfl, ho, hb⟩
            have HA35 := kp (HA34.out.bel hb)
            have HV35 : Hid (Wd.Secs W35 ov35 (wcmd r n2 x2)) := kp (Wd.Own.secs ho)
            have HP35_8 := kp (HP34_8.out.bel hb)
            have HP35_9 := kp (HP34_9.out.bel hb)
            clear ho hb HA34 HP34_8 HP34_9
            go_wp2_with (fail)
            refine hK.out _ _ (HSP.out _ HA35.out.o) (fun hS => ?_)
            clear hK K
            try simp only [Act.put,List.getElem_toArray,List.getElem_cons_succ,List.getElem_cons_zero,List.setIfInBounds_toArray,List.set_cons_zero,List.set_cons_succ]
            clear hS
            refine rd1 (i := 7) (by kernel_rfl) rfl (fun K hK => ?_)
            go_simp
            refine (HC3.out _ _ HA35.out.u HV35.out).mono ?_
            rintro e W36 ⟨dvr, rfl, ho, hu, hf⟩
            have HR36 := kp (rd0 ho)
            obtain ⟨D36, E36, rfl, -, -⟩ := Wd.own_form ho
            have HA36 := kp (HA35.out.do_ HGW.out hu hf)
            have HP36_8 := kp (HP35_8.out.do_ HA35.out.lt hf)
            have HP36_9 := kp (HP35_9.out.do_ HA35.out.lt hf)
            clear ho hu hf HA35 HV35 HP35_8 HP35_9
            go_wp2_with (fail)
            refine hK.out _ _ (HSP.out _ HA36.out.o) (fun hS => ?_)
            clear hK K
            try simp only [Act.put,List.getElem_toArray,List.getElem_cons_succ,List.getElem_cons_zero,List.setIfInBounds_toArray,List.set_cons_zero,List.set_cons_succ]
            clear hS
            have X := kp (ap_end HA36.out HP36_8.out HP36_9.out HNE.out.symm (ro st1 se1 D2 E2) (ro st2 se2 D36 E36))
            refine rd1 (i := 10) (by kernel_rfl) rfl (fun K hK => ?_)
            rw [if_pos (by rfl)]
            refine wp_store_row 31 _ _ rfl bb34 (ro st1 se1 D2 E2) rfl rfl 31 _ HP36_8.out.box (by kernel_rfl) rfl (ro1 _ _ _ _) ?_
            refine hK.out _ _ (HSP.out _ X.out.2.1.o) (fun hS => ?_)
            clear hK K
            try simp only [Act.put,List.getElem_toArray,List.getElem_cons_succ,List.getElem_cons_zero,List.setIfInBounds_toArray,List.set_cons_zero,List.set_cons_succ]
            refine rd1 (i := 11) (by kernel_rfl) rfl (fun K hK => ?_)
            rw [if_pos (by rfl)]
            refine wp_store_row 31 _ _ rfl bb28 (ro st2 se2 D36 E36) rfl rfl 31 _ X.out.1 (by kernel_rfl) rfl (ro1 _ _ _ _) ?_
            refine hK.out _ _ (HSP.out _ X.out.2.2.1.o) (fun hS => ?_)
            clear hK K
            try simp only [Act.put,List.getElem_toArray,List.getElem_cons_succ,List.getElem_cons_zero,List.setIfInBounds_toArray,List.set_cons_zero,List.set_cons_succ]
            refine wpAnyH_done (by kernel_rfl) ?_ _
            go_wp2_with (fail)
            go_meet
            exact ⟨bb34, bb28, D2, E2, D36, E36, rfl, rfl, X.out.2.2.2.1, X.out.2.2.2.2, HR2.out, HR36.out, X.out.2.2.1.u, HWO.out _ X.out.2.2.1.o, X.out.2.2.1.b⟩
         refine arc rfl (fun K hK => ?_) ?_
         · as_aux_lemma =>
            have ha := fun o => HA1.out.bel (balloc W1 o)
            go_simp
            refine hK.out _ _ (HSP.out _ (ha _).o) (fun hS => ?_)
            clear hK K
            try simp only [Act.put,List.getElem_toArray,List.getElem_cons_succ,List.getElem_cons_zero,List.setIfInBounds_toArray,List.set_cons_zero,List.set_cons_succ]
            clear hS
            change wpAnyH _ _ _ _ _ _ _ _ (W1.alloc (.cells (rep 0 0) 31))
            have HA37 := kp (ha (.cells (rep 0 0) 31))
            have HP37_8 := kp (Bp.new HA1.out)
            have HV37 := kp (HV1.out.below (balloc W1 (.cells (rep 0 0) 31)))
            clear ha HA1  HV1
            generalize W1.heap.size = bb37 at *
            generalize W1.alloc (.cells (rep 0 0) 31) = W37 at *
            refine rdn [3, 9] (by kernel_rfl) (by simp) ?_
            refine arc rfl (fun K hK => ?_) ?_
            · as_aux_lemma =>
               go_simp
               refine (HC1.out _ _ HA37.out.u HV37.out).mono ?_
               rintro e W38 ⟨dvr, rfl, ho, hu, hf⟩
               have HR38 := kp (rd0 ho)
               obtain ⟨D38, E38, rfl, -, -⟩ := Wd.own_form ho
               have HA38 := kp (HA37.out.do_ HGW.out hu hf)
               have HP38_8 := kp (HP37_8.out.do_ HA37.out.lt hf)
               clear ho hu hf HA37 HV37 HP37_8
               go_wp2_with (fail)
               refine hK.out _ _ (HSP.out _ HA38.out.o) (fun hS => ?_)
               clear hK K
               try simp only [Act.put,List.getElem_toArray,List.getElem_cons_succ,List.getElem_cons_zero,List.setIfInBounds_toArray,List.set_cons_zero,List.set_cons_succ]
               clear hS
               refine rdn [6, 9] (by kernel_rfl) (by simp) ?_
               refine arc rfl (fun K hK => ?_) ?_
               · as_aux_lemma =>
                  go_simp
                  refine (Wd.own_any (wcmd r n2 x2) (.slice A2 n2 c2) W38 (H2.out.below HA38.out.b) HL2.out).mono ?_
                  rintro e W39 ⟨ov39, rfl, ho, hb⟩
                  have HA39 := kp (HA38.out.bel hb)
                  have HV39 : Hid (Wd.Secs W39 ov39 (wcmd r n2 x2)) := kp (Wd.Own.secs ho)
                  have HP39_8 := kp (HP38_8.out.bel hb)
                  clear ho hb HA38 HP38_8
                  go_wp2_with (fail)
                  refine hK.out _ _ (HSP.out _ HA39.out.o) (fun hS => ?_)
                  clear hK K
                  try simp only [Act.put,List.getElem_toArray,List.getElem_cons_succ,List.getElem_cons_zero,List.setIfInBounds_toArray,List.set_cons_zero,List.set_cons_succ]
                  clear hS
                  refine rdn [7, 9] (by kernel_rfl) (by simp) ?_
                  refine arc rfl (fun K hK => ?_) ?_
                  · as_aux_lemma =>
                     go_simp
                     refine (HC3.out _ _ HA39.out.u HV39.out).mono ?_
                     rintro e W40 ⟨dvr, rfl, ho, hu, hf⟩
                     have HR40 := kp (rd0 ho)
                     obtain ⟨D40, E40, rfl, -, -⟩ := Wd.own_form ho
                     have HA40 := kp (HA39.out.do_ HGW.out hu hf)
                     have HP40_8 := kp (HP39_8.out.do_ HA39.out.lt hf)
                     clear ho hu hf HA39 HV39 HP39_8
                     go_wp2_with (fail)
                     refine hK.out _ _ (HSP.out _ HA40.out.o) (fun hS => ?_)
                     clear hK K
                     try simp only [Act.put,List.getElem_toArray,List.getElem_cons_succ,List.getElem_cons_zero,List.setIfInBounds_toArray,List.set_cons_zero,List.set_cons_succ]
                     clear hS
                     refine rd1 (i := 9) (by kernel_rfl) rfl (fun K hK => ?_)
                     have ha := fun o => HA40.out.bel (balloc W40 o)
                     go_simp
                     refine hK.out _ _ (HSP.out _ (ha _).o) (fun hS => ?_)
                     clear hK K
                     try simp only [Act.put,List.getElem_toArray,List.getElem_cons_succ,List.getElem_cons_zero,List.setIfInBounds_toArray,List.set_cons_zero,List.set_cons_succ]
                     clear hS
                     change wpAnyH _ _ _ _ _ _ _ _ (W40.alloc (.cells (rep 0 0) 31))
                     have HA41 := kp (ha (.cells (rep 0 0) 31))
                     have HP41_9 := kp (Bp.new HA40.out)
                     have HP41_8 := kp (HP40_8.out.bel (balloc W40 (.cells (rep 0 0) 31)))
                     have HNE := kp (Nat.ne_of_lt HP40_8.out.lt)
                     clear ha HA40 HP40_8 
                     generalize W40.heap.size = bb41 at *
                     generalize W40.alloc (.cells (rep 0 0) 31) = W41 at *
                     have X := kp (ap_end HA41.out HP41_8.out HP41_9.out HNE.out (ro st1 se1 D38 E38) (ro st2 se2 D40 E40))
                     refine rd1 (i := 10) (by kernel_rfl) rfl (fun K hK => ?_)
                     rw [if_pos (by rfl)]
                     refine wp_store_row 31 _ _ rfl bb37 (ro st1 se1 D38 E38) rfl rfl 31 _ HP41_8.out.box (by kernel_rfl) rfl (ro1 _ _ _ _) ?_
                     refine hK.out _ _ (HSP.out _ X.out.2.1.o) (fun hS => ?_)
                     clear hK K
                     try simp only [Act.put,List.getElem_toArray,List.getElem_cons_succ,List.getElem_cons_zero,List.setIfInBounds_toArray,List.set_cons_zero,List.set_cons_succ]
                     refine rd1 (i := 11) (by kernel_rfl) rfl (fun K hK => ?_)
                     rw [if_pos (by rfl)]
                     refine wp_store_row 31 _ _ rfl bb41 (ro st2 se2 D40 E40) rfl rfl 31 _ X.out.1 (by kernel_rfl) rfl (ro1 _ _ _ _) ?_
                     refine hK.out _ _ (HSP.out _ X.out.2.2.1.o) (fun hS => ?_)
                     clear hK K
                     try simp only [Act.put,List.getElem_toArray,List.getElem_cons_succ,List.getElem_cons_zero,List.setIfInBounds_toArray,List.set_cons_zero,List.set_cons_succ]
                     refine wpAnyH_done (by kernel_rfl) ?_ _
                     go_wp2_with (fail)
                     go_meet
                     exact ⟨bb37, bb41, D38, E38, D40, E40, rfl, rfl, X.out.2.2.2.1, X.out.2.2.2.2, HR38.out, HR40.out, X.out.2.2.1.u, HWO.out _ X.out.2.2.1.o, X.out.2.2.1.b⟩
                  refine arn rfl (fun K hK => ?_)
                  have ha := fun o => HA39.out.bel (balloc W39 o)
                  go_simp
                  refine hK.out _ _ (HSP.out _ (ha _).o) (fun hS => ?_)
                  clear hK K
                  try simp only [Act.put,List.getElem_toArray,List.getElem_cons_succ,List.getElem_cons_zero,List.setIfInBounds_toArray,List.set_cons_zero,List.set_cons_succ]
                  clear hS
                  change wpAnyH _ _ _ _ _ _ _ _ (W39.alloc (.cells (rep 0 0) 31))
                  have HA42 := kp (ha (.cells (rep 0 0) 31))
                  have HP42_9 := kp (Bp.new HA39.out)
                  have HP42_8 := kp (HP39_8.out.bel (balloc W39 (.cells (rep 0 0) 31)))
                  have HNE := kp (Nat.ne_of_lt HP39_8.out.lt)
                  have HV42 := kp (HV39.out.below (balloc W39 (.cells (rep 0 0) 31)))
                  clear ha HA39 HP39_8 HV39
                  generalize W39.heap.size = bb42 at *
                  generalize W39.alloc (.cells (rep 0 0) 31) = W42 at *
                  refine rd1 (i := 7) (by kernel_rfl) rfl (fun K hK => ?_)
                  go_simp
                  refine (HC3.out _ _ HA42.out.u HV42.out).mono ?_
                  rintro e W43 ⟨dvr, rfl, ho, hu, hf⟩
                  have HR43 := kp (rd0 ho)
                  obtain ⟨D43, E43, rfl, -, -⟩ := Wd.own_form ho
                  have HA43 := kp (HA42.out.do_ HGW.out hu hf)
                  have HP43_9 := kp (HP42_9.out.do_ HA42.out.lt hf)
                  have HP43_8 := kp (HP42_8.out.do_ HA42.out.lt hf)
                  clear ho hu hf HA42 HV42 HP42_9 HP42_8
                  go_wp2_with (fail)
                  refine hK.out _ _ (HSP.out _ HA43.out.o) (fun hS => ?_)
                  clear hK K
                  try simp only [Act.put,List.getElem_toArray,List.getElem_cons_succ,List.getElem_cons_zero,List.setIfInBounds_toArray,List.set_cons_zero,List.set_cons_succ]
                  clear hS
                  have X := kp (ap_end HA43.out HP43_8.out HP43_9.out HNE.out (ro st1 se1 D38 E38) (ro st2 se2 D43 E43))
                  refine rd1 (i := 10) (by kernel_rfl) rfl (fun K hK => ?_)
                  rw [if_pos (by rfl)]
                  refine wp_store_row 31 _ _ rfl bb37 (ro st1 se1 D38 E38) rfl rfl 31 _ HP43_8.out.box (by kernel_rfl) rfl (ro1 _ _ _ _) ?_
                  refine hK.out _ _ (HSP.out _ X.out.2.1.o) (fun hS => ?_)
                  clear hK K
                  try simp only [Act.put,List.getElem_toArray,List.getElem_cons_succ,List.getElem_cons_zero,List.setIfInBounds_toArray,List.set_cons_zero,List.set_cons_succ]
                  refine rd1 (i := 11) (by kernel_rfl) rfl (fun K hK => ?_)
                  rw [if_pos (by rfl)]
                  refine wp_store_row 31 _ _ rfl bb42 (ro st2 se2 D43 E43) rfl rfl 31 _ X.out.1 (by kernel_rfl) rfl (ro1 _ _ _ _) ?_
                  refine hK.out _ _ (HSP.out _ X.out.2.2.1.o) (fun hS => ?_)
                  clear hK K
                  try simp only [Act.put,List.getElem_toArray,List.getElem_cons_succ,List.getElem_cons_zero,List.setIfInBounds_toArray,List.set_cons_zero,List.set_cons_succ]
                  refine wpAnyH_done (by kernel_rfl) ?_ _
                  go_wp2_with (fail)
                  go_meet
                  exact ⟨bb37, bb42, D38, E38, D43, E43, rfl, rfl, X.out.2.2.2.1, X.out.2.2.2.2, HR38.out, HR43.out, X.out.2.2.1.u, HWO.out _ X.out.2.2.1.o, X.out.2.2.1.b⟩
               refine arn rfl (fun K hK => ?_)
               have ha := fun o => HA38.out.bel (balloc W38 o)
               go_simp
               refine hK.out _ _ (HSP.out _ (ha _).o) (fun hS => ?_)
               clear hK K
               try simp only [Act.put,List.getElem_toArray,List.getElem_cons_succ,List.getElem_cons_zero,List.setIfInBounds_toArray,List.set_cons_zero,List.set_cons_succ]
               clear hS
               change wpAnyH _ _ _ _ _ _ _ _ (W38.alloc (.cells (rep 0 0) 31))
               have HA44 := kp (ha (.cells (rep 0 0) 31))
               have HP44_9 := kp (Bp.new HA38.out)
               have HP44_8 := kp (HP38_8.out.bel (balloc W38 (.cells (rep 0 0) 31)))
               have HNE := kp (Nat.ne_of_lt HP38_8.out.lt)
               clear ha HA38 HP38_8 
               generalize W38.heap.size = bb44 at *
               generalize W38.alloc (.cells (rep 0 0) 31) = W44 at *
               refine rd1 (i := 6) (by kernel_rfl) rfl (fun K hK => ?_)
               go_simp
               refine (Wd.own_any (wcmd r n2 x2) (.slice A2 n2 c2) W44 (H2.out.below HA44.out.b) HL2.out).mono ?_
               rintro e W45 ⟨ov45, rfl, ho, hb⟩
               have HA45 := kp (HA44.out.bel hb)
               have HV45 : Hid (Wd.Secs W45 ov45 (wcmd r n2 x2)) := kp (Wd.Own.secs ho)
               have HP45_9 := kp (HP44_9.out.bel hb)
               have HP45_8 := kp (HP44_8.out.bel hb)
               clear ho hb HA44 HP44_9 HP44_8
               go_wp2_with (fail)
               refine hK.out _ _ (HSP.out _ HA45.out.o) (fun hS => ?_)
               clear hK K
               try simp only [Act.put,List.getElem_toArray,List.getElem_cons_succ,List.getElem_cons_zero,List.setIfInBounds_toArray,List.set_cons_zero,List.set_cons_succ]
               clear hS
               refine rd1 (i := 7) (by kernel_rfl) rfl (fun K hK => ?_)
               go_simp
               refine (HC3.out _ _ HA45.out.u HV45.out).mono ?_
               rintro e W46 ⟨dvr, rfl, ho, hu, hf⟩
               have HR46 := kp (rd0 ho)
               obtain ⟨D46, E46, rfl, -, -⟩ := Wd.own_form ho
               have HA46 := kp (HA45.out.do_ HGW.out hu hf)
               have HP46_9 := kp (HP45_9.out.do_ HA45.out.lt hf)
               have HP46_8 := kp (HP45_8.out.do_ HA45.out.lt hf)
               clear ho hu hf HA45 HV45 HP45_9 HP45_8
               go_wp2_with (fail)
               refine hK.out _ _ (HSP.out _ HA46.out.o) (fun hS => ?_)
               clear hK K
               try simp only [Act.put,List.getElem_toArray,List.getElem_cons_succ,List.getElem_cons_zero,List.setIfInBounds_toArray,List.set_cons_zero,List.set_cons_succ]
               clear hS
               have X := kp (ap_end HA46.out HP46_8.out HP46_9.out HNE.out (ro st1 se1 D38 E38) (ro st2 se2 D46 E46))
               refine rd1 (i := 10) (by kernel_rfl) rfl (fun K hK => ?_)
               rw [if_pos (by rfl)]
               refine wp_store_row 31 _ _ rfl bb37 (ro st1 se1 D38 E38) rfl rfl 31 _ HP46_8.out.box (by kernel_rfl) rfl (ro1 _ _ _ _) ?_
               refine hK.out _ _ (HSP.out _ X.out.2.1.o) (fun hS => ?_)
               clear hK K
               try simp only [Act.put,List.getElem_toArray,List.getElem_cons_succ,List.getElem_cons_zero,List.setIfInBounds_toArray,List.set_cons_zero,List.set_cons_succ]
               refine rd1 (i := 11) (by kernel_rfl) rfl (fun K hK => ?_)
               rw [if_pos (by rfl)]
               refine wp_store_row 31 _ _ rfl bb44 (ro st2 se2 D46 E46) rfl rfl 31 _ X.out.1 (by kernel_rfl) rfl (ro1 _ _ _ _) ?_
               refine hK.out _ _ (HSP.out _ X.out.2.2.1.o) (fun hS => ?_)
               clear hK K
               try simp only [Act.put,List.getElem_toArray,List.getElem_cons_succ,List.getElem_cons_zero,List.setIfInBounds_toArray,List.set_cons_zero,List.set_cons_succ]
               refine wpAnyH_done (by kernel_rfl) ?_ _
               go_wp2_with (fail)
               go_meet
               exact ⟨bb37, bb44, D38, E38, D46, E46, rfl, rfl, X.out.2.2.2.1, X.out.2.2.2.2, HR38.out, HR46.out, X.out.2.2.1.u, HWO.out _ X.out.2.2.1.o, X.out.2.2.1.b⟩
            refine arn rfl (fun K hK => ?_)
            have ha := fun o => HA37.out.bel (balloc W37 o)
            go_simp
            refine hK.out _ _ (HSP.out _ (ha _).o) (fun hS => ?_)
            clear hK K
            try simp only [Act.put,List.getElem_toArray,List.getElem_cons_succ,List.getElem_cons_zero,List.setIfInBounds_toArray,List.set_cons_zero,List.set_cons_succ]
            clear hS
            change wpAnyH _ _ _ _ _ _ _ _ (W37.alloc (.cells (rep 0 0) 31))
            have HA47 := kp (ha (.cells (rep 0 0) 31))
            have HP47_9 := kp (Bp.new HA37.out)
            have HP47_8 := kp (HP37_8.out.bel (balloc W37 (.cells (rep 0 0) 31)))
            have HNE := kp (Nat.ne_of_lt HP37_8.out.lt)
            have HV47 := kp (HV37.out.below (balloc W37 (.cells (rep 0 0) 31)))
            clear ha HA37 HP37_8 HV37
            generalize W37.heap.size = bb47 at *
            generalize W37.alloc (.cells (rep 0 0) 31) = W47 at *
            refine rd1 (i := 3) (by kernel_rfl) rfl (fun K hK => ?_)
            go_simp
            refine (HC1.out _ _ HA47.out.u HV47.out).mono ?_
            rintro e W48 ⟨dvr, rfl, ho, hu, hf⟩
            have HR48 := kp (rd0 ho)
            obtain ⟨D48, E48, rfl, -, -⟩ := Wd.own_form ho
            have HA48 := kp (HA47.out.do_ HGW.out hu hf)
            have HP48_9 := kp (HP47_9.out.do_ HA47.out.lt hf)
            have HP48_8 := kp (HP47_8.out.do_ HA47.out.lt hf)
            clear ho hu hf HA47 HV47 HP47_9 HP47_8
            go_wp2_with (fail)
            refine hK.out _ _ (HSP.out _ HA48.out.o) (fun hS => ?_)
            clear hK K
            try simp only [Act.put,List.getElem_toArray,List.getElem_cons_succ,List.getElem_cons_zero,List.setIfInBounds_toArray,List.set_cons_zero,List.set_cons_succ]
            clear hS
            refine rd1 (i := 6) (by kernel_rfl) rfl (fun K hK => ?_)
            go_simp
            refine (Wd.own_any (wcmd r n2 x2) (.slice A2 n2 c2) W48 (H2.out.below HA48.out.b) HL2.out).mono ?_
            rintro e W49 ⟨ov49, rfl, ho, hb⟩
            have HA49 := kp (HA48.out.bel hb)
            have HV49 : Hid (Wd.Secs W49 ov49 (wcmd r n2 x2)) := kp (Wd.Own.secs ho)
            have HP49_9 := kp (HP48_9.out.bel hb)
            have HP49_8 := kp (HP48_8.out.bel hb)
            clear ho hb HA48 HP48_9 HP48_8
            go_wp2_with (fail)
            refine hK.out _ _ (HSP.out _ HA49.out.o) (fun hS => ?_)
            clear hK K
            try simp only [Act.put,List.getElem_toArray,List.getElem_cons_succ,List.getElem_cons_zero,List.setIfInBounds_toArray,List.set_cons_zero,List.set_cons_succ]
            clear hS
            refine rd1 (i := 7) (by kernel_rfl) rfl (fun K hK => ?_)
            go_simp
            refine (HC3.out _ _ HA49.out.u HV49.out).mono ?_
            rintro e W50 ⟨dvr, rfl, ho, hu, hf⟩
            have HR50 := kp (rd0 ho)
            obtain ⟨D50, E50, rfl, -, -⟩ := Wd.own_form ho
            have HA50 := kp (HA49.out.do_ HGW.out hu hf)
            have HP50_9 := kp (HP49_9.out.do_ HA49.out.lt hf)
            have HP50_8 := kp (HP49_8.out.do_ HA49.out.lt hf)
            clear ho hu hf HA49 HV49 HP49_9 HP49_8
            go_wp2_with (fail)
            refine hK.out _ _ (HSP.out _ HA50.out.o) (fun hS => ?_)
            clear hK K
            try simp only [Act.put,List.getElem_toArray,List.getElem_cons_succ,List.getElem_cons_zero,List.setIfInBounds_toArray,List.set_cons_zero,List.set_cons_succ]
            clear hS
            have X := kp (ap_end HA50.out HP50_8.out HP50_9.out HNE.out (ro st1 se1 D48 E48) (ro st2 se2 D50 E50))
            refine rd1 (i := 10) (by kernel_rfl) rfl (fun K hK => ?_)
            rw [if_pos (by rfl)]
            refine wp_store_row 31 _ _ rfl bb37 (ro st1 se1 D48 E48) rfl rfl 31 _ HP50_8.out.box (by kernel_rfl) rfl (ro1 _ _ _ _) ?_
            refine hK.out _ _ (HSP.out _ X.out.2.1.o) (fun hS => ?_)
            clear hK K
            try simp only [Act.put,List.getElem_toArray,List.getElem_cons_succ,List.getElem_cons_zero,List.setIfInBounds_toArray,List.set_cons_zero,List.set_cons_succ]
            refine rd1 (i := 11) (by kernel_rfl) rfl (fun K hK => ?_)
            rw [if_pos (by rfl)]
            refine wp_store_row 31 _ _ rfl bb47 (ro st2 se2 D50 E50) rfl rfl 31 _ X.out.1 (by kernel_rfl) rfl (ro1 _ _ _ _) ?_
            refine hK.out _ _ (HSP.out _ X.out.2.2.1.o) (fun hS => ?_)
            clear hK K
            try simp only [Act.put,List.getElem_toArray,List.getElem_cons_succ,List.getElem_cons_zero,List.setIfInBounds_toArray,List.set_cons_zero,List.set_cons_succ]
            refine wpAnyH_done (by kernel_rfl) ?_ _
            go_wp2_with (fail)
            go_meet
            exact ⟨bb37, bb47, D48, E48, D50, E50, rfl, rfl, X.out.2.2.2.1, X.out.2.2.2.2, HR48.out, HR50.out, X.out.2.2.1.u, HWO.out _ X.out.2.2.1.o, X.out.2.2.1.b⟩
         refine arn rfl (fun K hK => ?_)
         have ha := fun o => HA1.out.bel (balloc W1 o)
         go_simp
         refine hK.out _ _ (HSP.out _ (ha _).o) (fun hS => ?_)
         clear hK K
         try simp only [Act.put,List.getElem_toArray,List.getElem_cons_succ,List.getElem_cons_zero,List.setIfInBounds_toArray,List.set_cons_zero,List.set_cons_succ]
         clear hS
         change wpAnyH _ _ _ _ _ _ _ _ (W1.alloc (.cells (rep 0 0) 31))
         have HA51 := kp (ha (.cells (rep 0 0) 31))
         have HP51_9 := kp (Bp.new HA1.out)
         have HV51 := kp (HV1.out.below (balloc W1 (.cells (rep 0 0) 31)))
         clear ha HA1  HV1
         generalize W1.heap.size = bb51 at *
         generalize W1.alloc (.cells (rep 0 0) 31) = W51 at *
         refine rdn [3, 8] (by kernel_rfl) (by simp) ?_
         refine arc rfl (fun K hK => ?_) ?_
         · as_aux_lemma =>
            go_simp
            refine (HC1.out _ _ HA51.out.u HV51.out).mono ?_
            rintro e W52 ⟨dvr, rfl, ho, hu, hf⟩
            have HR52 := kp (rd0 ho)
            obtain ⟨D52, E52, rfl, -, -⟩ := Wd.own_form ho
            have HA52 := kp (HA51.out.do_ HGW.out hu hf)
            have HP52_9 := kp (HP51_9.out.do_ HA51.out.lt hf)
            clear ho hu hf HA51 HV51 HP51_9
            go_wp2_with (fail)
            refine hK.out _ _ (HSP.out _ HA52.out.o) (fun hS => ?_)
            clear hK K
            try simp only [Act.put,List.getElem_toArray,List.getElem_cons_succ,List.getElem_cons_zero,List.setIfInBounds_toArray,List.set_cons_zero,List.set_cons_succ]
            clear hS
            refine rdn [6, 8] (by kernel_rfl) (by simp) ?_
            refine arc rfl (fun K hK => ?_) ?_
            · as_aux_lemma =>
               go_simp
               refine (Wd.own_any (wcmd r n2 x2) (.slice A2 n2 c2) W52 (H2.out.below HA52.out.b) HL2.out).mono ?_
               rintro e W53 ⟨ov53, rfl, ho, hb⟩
               have HA53 := kp (HA52.out.bel hb)
               have HV53 : Hid (Wd.Secs W53 ov53 (wcmd r n2 x2)) := kp (Wd.Own.secs ho)
               have HP53_9 := kp (HP52_9.out.bel hb)
               clear ho hb HA52 HP52_9
               go_wp2_with (fail)
               refine hK.out _ _ (HSP.out _ HA53.out.o) (fun hS => ?_)
               clear hK K
               try simp only [Act.put,List.getElem_toArray,List.getElem_cons_succ,List.getElem_cons_zero,List.setIfInBounds_toArray,List.set_cons_zero,List.set_cons_succ]
               clear hS
               refine rdn [7, 8] (by kernel_rfl) (by simp) ?_
               refine arc rfl (fun K hK => ?_) ?_
               · as_aux_lemma =>
                  go_simp
                  refine (HC3.out _ _ HA53.out.u HV53.out).mono ?_
                  rintro e W54 ⟨dvr, rfl, ho, hu, hf⟩
                  have HR54 := kp (rd0 ho)
                  obtain ⟨D54, E54, rfl, -, -⟩ := Wd.own_form ho
                  have HA54 := kp (HA53.out.do_ HGW.out hu hf)
                  have HP54_9 := kp (HP53_9.out.do_ HA53.out.lt hf)
                  clear ho hu hf HA53 HV53 HP53_9
                  go_wp2_with (fail)
                  refine hK.out _ _ (HSP.out _ HA54.out.o) (fun hS => ?_)
                  clear hK K
                  try simp only [Act.put,List.getElem_toArray,List.getElem_cons_succ,List.getElem_cons_zero,List.setIfInBounds_toArray,List.set_cons_zero,List.set_cons_succ]
                  clear hS
                  refine rd1 (i := 8) (by kernel_rfl) rfl (fun K hK => ?_)
                  have ha := fun o => HA54.out.bel (balloc W54 o)
                  go_simp
                  refine hK.out _ _ (HSP.out _ (ha _).o) (fun hS => ?_)
                  clear hK K
                  try simp only [Act.put,List.getElem_toArray,List.getElem_cons_succ,List.getElem_cons_zero,List.setIfInBounds_toArray,List.set_cons_zero,List.set_cons_succ]
                  clear hS
                  change wpAnyH _ _ _ _ _ _ _ _ (W54.alloc (.cells (rep 0 0) 31))
                  have HA55 := kp (ha (.cells (rep 0 0) 31))
                  have HP55_8 := kp (Bp.new HA54.out)
                  have HP55_9 := kp (HP54_9.out.bel (balloc W54 (.cells (rep 0 0) 31)))
                  have HNE := kp (Nat.ne_of_lt HP54_9.out.lt)
                  clear ha HA54 HP54_9 
                  generalize W54.heap.size = bb55 at *
                  generalize W54.alloc (.cells (rep 0 0) 31) = W55 at *
                  have X := kp (ap_end HA55.out HP55_8.out HP55_9.out HNE.out.symm (ro st1 se1 D52 E52) (ro st2 se2 D54 E54))
                  refine rd1 (i := 10) (by kernel_rfl) rfl (fun K hK => ?_)
                  rw [if_pos (by rfl)]
                  refine wp_store_row 31 _ _ rfl bb55 (ro st1 se1 D52 E52) rfl rfl 31 _ HP55_8.out.box (by kernel_rfl) rfl (ro1 _ _ _ _) ?_
                  refine hK.out _ _ (HSP.out _ X.out.2.1.o) (fun hS => ?_)
                  clear hK K
                  try simp only [Act.put,List.getElem_toArray,List.getElem_cons_succ,List.getElem_cons_zero,List.setIfInBounds_toArray,List.set_cons_zero,List.set_cons_succ]
                  refine rd1 (i := 11) (by kernel_rfl) rfl (fun K hK => ?_)
                  rw [if_pos (by rfl)]
                  refine wp_store_row 31 _ _ rfl bb51 (ro st2 se2 D54 E54) rfl rfl 31 _ X.out.1 (by kernel_rfl) rfl (ro1 _ _ _ _) ?_
                  refine hK.out _ _ (HSP.out _ X.out.2.2.1.o) (fun hS => ?_)
                  clear hK K
                  try simp only [Act.put,List.getElem_toArray,List.getElem_cons_succ,List.getElem_cons_zero,List.setIfInBounds_toArray,List.set_cons_zero,List.set_cons_succ]
                  refine wpAnyH_done (by kernel_rfl) ?_ _
                  go_wp2_with (fail)
                  go_meet
                  exact ⟨bb55, bb51, D52, E52, D54, E54, rfl, rfl, X.out.2.2.2.1, X.out.2.2.2.2, HR52.out, HR54.out, X.out.2.2.1.u, HWO.out _ X.out.2.2.1.o, X.out.2.2.1.b⟩
               refine arn rfl (fun K hK => ?_)
               have ha := fun o => HA53.out.bel (balloc W53 o)
               go_simp
               refine hK.out _ _ (HSP.out _ (ha _).o) (fun hS => ?_)
               clear hK K
               try simp only [Act.put,List.getElem_toArray,List.getElem_cons_succ,List.getElem_cons_zero,List.setIfInBounds_toArray,List.set_cons_zero,List.set_cons_succ]
               clear hS
               change wpAnyH _ _ _ _ _ _ _ _ (W53.alloc (.cells (rep 0 0) 31))
               have HA56 := kp (ha (.cells (rep 0 0) 31))
               have HP56_8 := kp (Bp.new HA53.out)
               have HP56_9 := kp (HP53_9.out.bel (balloc W53 (.cells (rep 0 0) 31)))
               have HNE := kp (Nat.ne_of_lt HP53_9.out.lt)
               have HV56 := kp (HV53.out.below (balloc W53 (.cells (rep 0 0) 31)))
               clear ha HA53 HP53_9 HV53
               generalize W53.heap.size = bb56 at *
               generalize W53.alloc (.cells (rep 0 0) 31) = W56 at *
               refine rd1 (i := 7) (by kernel_rfl) rfl (fun K hK => ?_)
               go_simp
               refine (HC3.out _ _ HA56.out.u HV56.out).mono ?_
               rintro e W57 ⟨dvr, rfl, ho, hu, hf⟩
               have HR57 := kp (rd0 ho)
               obtain ⟨D57, E57, rfl, -, -⟩ := Wd.own_form ho
               have HA57 := kp (HA56.out.do_ HGW.out hu hf)
               have HP57_8 := kp (HP56_8.out.do_ HA56.out.lt hf)
               have HP57_9 := kp (HP56_9.out.do_ HA56.out.lt hf)
               clear ho hu hf HA56 HV56 HP56_8 HP56_9
               go_wp2_with (fail)
               refine hK.out _ _ (HSP.out _ HA57.out.o) (fun hS => ?_)
               clear hK K
               try simp only [Act.put,List.getElem_toArray,List.getElem_cons_succ,List.getElem_cons_zero,List.setIfInBounds_toArray,List.set_cons_zero,List.set_cons_succ]
               clear hS
               have X := kp (ap_end HA57.out HP57_8.out HP57_9.out HNE.out.symm (ro st1 se1 D52 E52) (ro st2 se2 D57 E57))
               refine rd1 (i := 10) (by kernel_rfl) rfl (fun K hK => ?_)
               rw [if_pos (by rfl)]
               refine wp_store_row 31 _ _ rfl bb56 (ro st1 se1 D52 E52) rfl rfl 31 _ HP57_8.out.box (by kernel_rfl) rfl (ro1 _ _ _ _) ?_
               refine hK.out _ _ (HSP.out _ X.out.2.1.o) (fun hS => ?_)
               clear hK K
               try simp only [Act.put,List.getElem_toArray,List.getElem_cons_succ,List.getElem_cons_zero,List.setIfInBounds_toArray,List.set_cons_zero,List.set_cons_succ]
               refine rd1 (i := 11) (by kernel_rfl) rfl (fun K hK => ?_)
               rw [if_pos (by rfl)]
               refine wp_store_row 31 _ _ rfl bb51 (ro st2 se2 D57 E57) rfl rfl 31 _ X.out.1 (by kernel_rfl) rfl (ro1 _ _ _ _) ?_
               refine hK.out _ _ (HSP.out _ X.out.2.2.1.o) (fun hS => ?_)
               clear hK K
               try simp only [Act.put,List.getElem_toArray,List.getElem_cons_succ,List.getElem_cons_zero,List.setIfInBounds_toArray,List.set_cons_zero,List.set_cons_succ]
               refine wpAnyH_done (by kernel_rfl) ?_ _
               go_wp2_with (fail)
               go_meet
               exact ⟨bb56, bb51, D52, E52, D57, E57, rfl, rfl, X.out.2.2.2.1, X.out.2.2.2.2, HR52.out, HR57.out, X.out.2.2.1.u, HWO.out _ X.out.2.2.1.o, X.out.2.2.1.b⟩
            refine arn rfl (fun K hK => ?_)
            have ha := fun o => HA52.out.bel (balloc W52 o)
            go_simp
            refine hK.out _ _ (HSP.out _ (ha _).o) (fun hS => ?_)
            clear hK K
            try simp only [Act.put,List.getElem_toArray,List.getElem_cons_succ,List.getElem_cons_zero,List.setIfInBounds_toArray,List.set_cons_zero,List.set_cons_succ]
            clear hS
            change wpAnyH _ _ _ _ _ _ _ _ (W52.alloc (.cells (rep 0 0) 31))
            have HA58 := kp (ha (.cells (rep 0 0) 31))
            have HP58_8 := kp (Bp.new HA52.out)
            have HP58_9 := kp (HP52_9.out.bel (balloc W52 (.cells (rep 0 0) 31)))
            have HNE := kp (Nat.ne_of_lt HP52_9.out.lt)
            clear ha HA52 HP52_9 
            generalize W52.heap.size = bb58 at *
            generalize W52.alloc (.cells (rep 0 0) 31) = W58 at *
            refine rd1 (i := 6) (by kernel_rfl) rfl (fun K hK => ?_)
            go_simp
            refine (Wd.own_any (wcmd r n2 x2) (.slice A2 n2 c2) W58 (H2.out.below HA58.out.b) HL2.out).mono ?_
            rintro e W59 ⟨ov59, rfl, ho, hb⟩
            have HA59 := kp (HA58.out.bel hb)
            have HV59 : Hid (Wd.Secs W59 ov59 (wcmd r n2 x2)) := kp (Wd.Own.secs ho)
            have HP59_8 := kp (HP58_8.out.bel hb)
            have HP59_9 := kp (HP58_9.out.bel hb)
            clear ho hb HA58 HP58_8 HP58_9
            go_wp2_with (fail)
            refine hK.out _ _ (HSP.out _ HA59.out.o) (fun hS => ?_)
            clear hK K
            try simp only [Act.put,List.getElem_toArray,List.getElem_cons_succ,List.getElem_cons_zero,List.setIfInBounds_toArray,List.set_cons_zero,List.set_cons_succ]
            clear hS
            refine rd1 (i := 7) (by kernel_rfl) rfl (fun K hK => ?_)
            go_simp
            refine (HC3.out _ _ HA59.out.u HV59.out).mono ?_
            rintro e W60 ⟨dvr, rfl, ho, hu, hf⟩
            have HR60 := kp (rd0 ho)
            obtain ⟨D60, E60, rfl, -, -⟩ := Wd.own_form ho
            have HA60 := kp (HA59.out.do_ HGW.out hu hf)
            have HP60_8 := kp (HP59_8.out.do_ HA59.out.lt hf)
            have HP60_9 := kp (HP59_9.out.do_ HA59.out.lt hf)
            clear ho hu hf HA59 HV59 HP59_8 HP59_9
            go_wp2_with (fail)
            refine hK.out _ _ (HSP.out _ HA60.out.o) (fun hS => ?_)
            clear hK K
            try simp only [Act.put,List.getElem_toArray,List.getElem_cons_succ,List.getElem_cons_zero,List.setIfInBounds_toArray,List.set_cons_zero,List.set_cons_succ]
            clear hS
            have X := kp (ap_end HA60.out HP60_8.out HP60_9.out HNE.out.symm (ro st1 se1 D52 E52) (ro st2 se2 D60 E60))
            refine rd1 (i := 10) (by kernel_rfl) rfl (fun K hK => ?_)
            rw [if_pos (by rfl)]
            refine wp_store_row 31 _ _ rfl bb58 (ro st1 se1 D52 E52) rfl rfl 31 _ HP60_8.out.box (by kernel_rfl) rfl (ro1 _ _ _ _) ?_
            refine hK.out _ _ (HSP.out _ X.out.2.1.o) (fun hS => ?_)
            clear hK K
            try simp only [Act.put,List.getElem_toArray,List.getElem_cons_succ,List.getElem_cons_zero,List.setIfInBounds_toArray,List.set_cons_zero,List.set_cons_succ]
            refine rd1 (i := 11) (by kernel_rfl) rfl (fun K hK => ?_)
            rw [if_pos (by rfl)]
            refine wp_store_row 31 _ _ rfl bb51 (ro st2 se2 D60 E60) rfl rfl 31 _ X.out.1 (by kernel_rfl) rfl (ro1 _ _ _ _) ?_
            refine hK.out _ _ (HSP.out _ X.out.2.2.1.o) (fun hS => ?_)
            clear hK K
            try simp only [Act.put,List.getElem_toArray,List.getElem_cons_succ,List.getElem_cons_zero,List.setIfInBounds_toArray,List.set_cons_zero,List.set_cons_succ]
            refine wpAnyH_done (by kernel_rfl) ?_ _
            go_wp2_with (fail)
            go_meet
            exact ⟨bb58, bb51, D52, E52, D60, E60, rfl, rfl, X.out.2.2.2.1, X.out.2.2.2.2, HR52.out, HR60.out, X.out.2.2.1.u, HWO.out _ X.out.2.2.1.o, X.out.2.2.1.b⟩
         refine arn rfl (fun K hK => ?_)
         have ha := fun o => HA51.out.bel (balloc W51 o)
         go_simp
         refine hK.out _ _ (HSP.out _ (ha _).o) (fun hS => ?_)
         clear hK K
         try simp only [Act.put,List.getElem_toArray,List.getElem_cons_succ,List.getElem_cons_zero,List.setIfInBounds_toArray,List.set_cons_zero,List.set_cons_succ]
         clear hS
         change wpAnyH _ _ _ _ _ _ _ _ (W51.alloc (.cells (rep 0 0) 31))
         have HA61 := kp (ha (.cells (rep 0 0) 31))
         have HP61_8 := kp (Bp.new HA51.out)
         have HP61_9 := kp (HP51_9.out.bel (balloc W51 (.cells (rep 0 0) 31)))
         have HNE := kp (Nat.ne_of_lt HP51_9.out.lt)
         have HV61 := kp (HV51.out.below (balloc W51 (.cells (rep 0 0) 31)))
         clear ha HA51 HP51_9 HV51
         generalize W51.heap.size = bb61 at *
         generalize W51.alloc (.cells (rep 0 0) 31) = W61 at *
         refine rd1 (i := 3) (by kernel_rfl) rfl (fun K hK => ?_)
         go_simp
         refine (HC1.out _ _ HA61.out.u HV61.out).mono ?_
         rintro e W62 ⟨dvr, rfl, ho, hu, hf⟩
         have HR62 := kp (rd0 ho)
         obtain ⟨D62, E62, rfl, -, -⟩ := Wd.own_form ho
         have HA62 := kp (HA61.out.do_ HGW.out hu hf)
         have HP62_8 := kp (HP61_8.out.do_ HA61.out.lt hf)
         have HP62_9 := kp (HP61_9.out.do_ HA61.out.lt hf)
         clear ho hu hf HA61 HV61 HP61_8 HP61_9
         go_wp2_with (fail)
         refine hK.out _ _ (HSP.out _ HA62.out.o) (fun hS => ?_)
         clear hK K
         try simp only [Act.put,List.getElem_toArray,List.getElem_cons_succ,List.getElem_cons_zero,List.setIfInBounds_toArray,List.set_cons_zero,List.set_cons_succ]
         clear hS
         refine rd1 (i := 6) (by kernel_rfl) rfl (fun K hK => ?_)
         go_simp
         refine (Wd.own_any (wcmd r n2 x2) (.slice A2 n2 c2) W62 (H2.out.below HA62.out.b) HL2.out).mono ?_
         rintro e W63 ⟨ov63, rfl, ho, hb⟩
         have HA63 := kp (HA62.out.bel hb)
         have HV63 : Hid (Wd.Secs W63 ov63 (wcmd r n2 x2)) := kp (Wd.Own.secs ho)
         have HP63_8 := kp (HP62_8.out.bel hb)
         have HP63_9 := kp (HP62_9.out.bel hb)
         clear ho hb HA62 HP62_8 HP62_9
         go_wp2_with (fail)
         refine hK.out _ _ (HSP.out _ HA63.out.o) (fun hS => ?_)
         clear hK K
         try simp only [Act.put,List.getElem_toArray,List.getElem_cons_succ,List.getElem_cons_zero,List.setIfInBounds_toArray,List.set_cons_zero,List.set_cons_succ]
         clear hS
         refine rd1 (i := 7) (by kernel_rfl) rfl (fun K hK => ?_)
         go_simp
         refine (HC3.out _ _ HA63.out.u HV63.out).mono ?_
         rintro e W64 ⟨dvr, rfl, ho, hu, hf⟩
         have HR64 := kp (rd0 ho)
         obtain ⟨D64, E64, rfl, -, -⟩ := Wd.own_form ho
         have HA64 := kp (HA63.out.do_ HGW.out hu hf)
         have HP64_8 := kp (HP63_8.out.do_ HA63.out.lt hf)
         have HP64_9 := kp (HP63_9.out.do_ HA63.out.lt hf)
         clear ho hu hf HA63 HV63 HP63_8 HP63_9
         go_wp2_with (fail)
         refine hK.out _ _ (HSP.out _ HA64.out.o) (fun hS => ?_)
         clear hK K
         try simp only [Act.put,List.getElem_toArray,List.getElem_cons_succ,List.getElem_cons_zero,List.setIfInBounds_toArray,List.set_cons_zero,List.set_cons_succ]
         clear hS
         have X := kp (ap_end HA64.out HP64_8.out HP64_9.out HNE.out.symm (ro st1 se1 D62 E62) (ro st2 se2 D64 E64))
         refine rd1 (i := 10) (by kernel_rfl) rfl (fun K hK => ?_)
         rw [if_pos (by rfl)]
         refine wp_store_row 31 _ _ rfl bb61 (ro st1 se1 D62 E62) rfl rfl 31 _ HP64_8.out.box (by kernel_rfl) rfl (ro1 _ _ _ _) ?_
         refine hK.out _ _ (HSP.out _ X.out.2.1.o) (fun hS => ?_)
         clear hK K
         try simp only [Act.put,List.getElem_toArray,List.getElem_cons_succ,List.getElem_cons_zero,List.setIfInBounds_toArray,List.set_cons_zero,List.set_cons_succ]
         refine rd1 (i := 11) (by kernel_rfl) rfl (fun K hK => ?_)
         rw [if_pos (by rfl)]
         refine wp_store_row 31 _ _ rfl bb51 (ro st2 se2 D64 E64) rfl rfl 31 _ X.out.1 (by kernel_rfl) rfl (ro1 _ _ _ _) ?_
         refine hK.out _ _ (HSP.out _ X.out.2.2.1.o) (fun hS => ?_)
         clear hK K
         try simp only [Act.put,List.getElem_toArray,List.getElem_cons_succ,List.getElem_cons_zero,List.setIfInBounds_toArray,List.set_cons_zero,List.set_cons_succ]
         refine wpAnyH_done (by kernel_rfl) ?_ _
         go_wp2_with (fail)
         go_meet
         exact ⟨bb61, bb51, D62, E62, D64, E64, rfl, rfl, X.out.2.2.2.1, X.out.2.2.2.2, HR62.out, HR64.out, X.out.2.2.1.u, HWO.out _ X.out.2.2.1.o, X.out.2.2.1.b⟩
      refine arc rfl (fun K hK => ?_) ?_
      · as_aux_lemma =>
         have ha := fun o => HA0.out.bel (balloc wS o)
         go_simp
         refine hK.out _ _ (HSP.out _ (ha _).o) (fun hS => ?_)
         clear hK K
         try simp only [Act.put,List.getElem_toArray,List.getElem_cons_succ,List.getElem_cons_zero,List.setIfInBounds_toArray,List.set_cons_zero,List.set_cons_succ]
         clear hS
         change wpAnyH _ _ _ _ _ _ _ _ (wS.alloc (.cells (rep 0 0) 31))
         have HA65 := kp (ha (.cells (rep 0 0) 31))
         have HP65_8 := kp (Bp.new HA0.out)
         clear ha HA0  
         generalize wS.heap.size = bb65 at *
         generalize wS.alloc (.cells (rep 0 0) 31) = W65 at *
         refine rdn [2, 9] (by kernel_rfl) (by simp) ?_
         refine arc rfl (fun K hK => ?_) ?_
         · as_aux_lemma =>
            go_simp
            refine (Wd.own_any (wcmd p n1 x1) (.slice A1 n1 c1) W65 (H1.out.below HA65.out.b) HL1.out).mono ?_
            rintro e W66 ⟨ov66, rfl, ho, hb⟩
            have HA66 := kp (HA65.out.bel hb)
            have HV66 : Hid (Wd.Secs W66 ov66 (wcmd p n1 x1)) := kp (Wd.Own.secs ho)
            have HP66_8 := kp (HP65_8.out.bel hb)
            clear ho hb HA65 HP65_8
            go_wp2_with (fail)
            refine hK.out _ _ (HSP.out _ HA66.out.o) (fun hS => ?_)
            clear hK K
            try simp only [Act.put,List.getElem_toArray,List.getElem_cons_succ,List.getElem_cons_zero,List.setIfInBounds_toArray,List.set_cons_zero,List.set_cons_succ]
            clear hS
            refine rdn [3, 9] (by kernel_rfl) (by simp) ?_
            refine arc rfl (fun K hK => ?_) ?_
            · as_aux_lemma =>
               go_simp
               refine (HC1.out _ _ HA66.out.u HV66.out).mono ?_
               rintro e W67 ⟨dvr, rfl, ho, hu, hf⟩
               have HR67 := kp (rd0 ho)
               obtain ⟨D67, E67, rfl, -, -⟩ := Wd.own_form ho
               have HA67 := kp (HA66.out.do_ HGW.out hu hf)
               have HP67_8 := kp (HP66_8.out.do_ HA66.out.lt hf)
               clear ho hu hf HA66 HV66 HP66_8
               go_wp2_with (fail)
               refine hK.out _ _ (HSP.out _ HA67.out.o) (fun hS => ?_)
               clear hK K
               try simp only [Act.put,List.getElem_toArray,List.getElem_cons_succ,List.getElem_cons_zero,List.setIfInBounds_toArray,List.set_cons_zero,List.set_cons_succ]
               clear hS
               refine rdn [6, 9] (by kernel_rfl) (by simp) ?_
               refine arc rfl (fun K hK => ?_) ?_
               · as_aux_lemma =>
                  go_simp
                  refine (Wd.own_any (wcmd r n2 x2) (.slice A2 n2 c2) W67 (H2.out.below HA67.out.b) HL2.out).mono ?_
                  rintro e W68 ⟨ov68, rfl, ho, hb⟩
                  have HA68 := kp (HA67.out.bel hb)
                  have HV68 : Hid (Wd.Secs W68 ov68 (wcmd r n2 x2)) := kp (Wd.Own.secs ho)
                  have HP68_8 := kp (HP67_8.out.bel hb)
                  clear ho hb HA67 HP67_8
                  go_wp2_with (fail)
                  refine hK.out _ _ (HSP.out _ HA68.out.o) (fun hS => ?_)
                  clear hK K
                  try simp only [Act.put,List.getElem_toArray,List.getElem_cons_succ,List.getElem_cons_zero,List.setIfInBounds_toArray,List.set_cons_zero,List.set_cons_succ]
                  clear hS
                  refine rdn [7, 9] (by kernel_rfl) (by simp) ?_
                  refine arc rfl (fun K hK => ?_) ?_
                  · as_aux_lemma =>
                     go_simp
                     refine (HC3.out _ _ HA68.out.u HV68.out).mono ?_
                     rintro e W69 ⟨dvr, rfl, ho, hu, hf⟩
                     have HR69 := kp (rd0 ho)
                     obtain ⟨D69, E69, rfl, -, -⟩ := Wd.own_form ho
                     have HA69 := kp (HA68.out.do_ HGW.out hu hf)
                     have HP69_8 := kp (HP68_8.out.do_ HA68.out.lt hf)
                     clear ho hu hf HA68 HV68 HP68_8
                     go_wp2_with (fail)
                     refine hK.out _ _ (HSP.out _ HA69.out.o) (fun hS => ?_)
                     clear hK K
                     try simp only [Act.put,List.getElem_toArray,List.getElem_cons_succ,List.getElem_cons_zero,List.setIfInBounds_toArray,List.set_cons_zero,List.set_cons_succ]
                     clear hS
                     refine rd1 (i := 9) (by kernel_rfl) rfl (fun K hK => ?_)
                     have ha := fun o => HA69.out.bel (balloc W69 o)
                     go_simp
                     refine hK.out _ _ (HSP.out _ (ha _).o) (fun hS => ?_)
                     clear hK K
                     try simp only [Act.put,List.getElem_toArray,List.getElem_cons_succ,List.getElem_cons_zero,List.setIfInBounds_toArray,List.set_cons_zero,List.set_cons_succ]
                     clear hS
                     change wpAnyH _ _ _ _ _ _ _ _ (W69.alloc (.cells (rep 0 0) 31))
                     have HA70 := kp (ha (.cells (rep 0 0) 31))
                     have HP70_9 := kp (Bp.new HA69.out)
                     have HP70_8 := kp (HP69_8.out.bel (balloc W69 (.cells (rep 0 0) 31)))
                     have HNE := kp (Nat.ne_of_lt HP69_8.out.lt)
                     clear ha HA69 HP69_8 
                     generalize W69.heap.size = bb70 at *
                     generalize W69.alloc (.cells (rep 0 0) 31) = W70 at *
                     have X := kp (ap_end HA70.out HP70_8.out HP70_9.out HNE.out (ro st1 se1 D67 E67) (ro st2 se2 D69 E69))
                     refine rd1 (i := 10) (by kernel_rfl) rfl (fun K hK => ?_)
                     rw [if_pos (by rfl)]
                     refine wp_store_row 31 _ _ rfl bb65 (ro st1 se1 D67 E67) rfl rfl 31 _ HP70_8.out.box (by kernel_rfl) rfl (ro1 _ _ _ _) ?_
                     refine hK.out _ _ (HSP.out _ X.out.2.1.o) (fun hS => ?_)
                     clear hK K
                     try simp only [Act.put,List.getElem_toArray,List.getElem_cons_succ,List.getElem_cons_zero,List.setIfInBounds_toArray,List.set_cons_zero,List.set_cons_succ]
                     refine rd1 (i := 11) (by kernel_rfl) rfl (fun K hK => ?_)
                     rw [if_pos (by rfl)]
                     refine wp_store_row 31 _ _ rfl bb70 (ro st2 se2 D69 E69) rfl rfl 31 _ X.out.1 (by kernel_rfl) rfl (ro1 _ _ _ _) ?_
                     refine hK.out _ _ (HSP.out _ X.out.2.2.1.o) (fun hS => ?_)
                     clear hK K
                     try simp only [Act.put,List.getElem_toArray,List.getElem_cons_succ,List.getElem_cons_zero,List.setIfInBounds_toArray,List.set_cons_zero,List.set_cons_succ]
                     refine wpAnyH_done (by kernel_rfl) ?_ _
                     go_wp2_with (fail)
                     go_meet
                     exact ⟨bb65, bb70, D67, E67, D69, E69, rfl, rfl, X.out.2.2.2.1, X.out.2.2.2.2, HR67.out, HR69.out, X.out.2.2.1.u, HWO.out _ X.out.2.2.1.o, X.out.2.2.1.b⟩
                  refine arn rfl (fun K hK => ?_)
                  have ha := fun o => HA68.out.bel (balloc W68 o)
                  go_simp
                  refine hK.out _ _ (HSP.out _ (ha _).o) (fun hS => ?_)
                  clear hK K
                  try simp only [Act.put,List.getElem_toArray,List.getElem_cons_succ,List.getElem_cons_zero,List.setIfInBounds_toArray,List.set_cons_zero,List.set_cons_succ]
                  clear hS
                  change wpAnyH _ _ _ _ _ _ _ _ (W68.alloc (.cells (rep 0 0) 31))
                  have HA71 := kp (ha (.cells (rep 0 0) 31))
                  have HP71_9 := kp (Bp.new HA68.out)
                  have HP71_8 := kp (HP68_8.out.bel (balloc W68 (.cells (rep 0 0) 31)))
                  have HNE := kp (Nat.ne_of_lt HP68_8.out.lt)
                  have HV71 := kp (HV68.out.below (balloc W68 (.cells (rep 0 0) 31)))
                  clear ha HA68 HP68_8 HV68
                  generalize W68.heap.size = bb71 at *
                  generalize W68.alloc (.cells (rep 0 0) 31) = W71 at *
                  refine rd1 (i := 7) (by kernel_rfl) rfl (fun K hK => ?_)
                  go_simp
                  refine (HC3.out _ _ HA71.out.u HV71.out).mono ?_
                  rintro e W72 ⟨dvr, rfl, ho, hu, hf⟩
                  have HR72 := kp (rd0 ho)
                  obtain ⟨D72, E72, rfl, -, -⟩ := Wd.own_form ho
                  have HA72 := kp (HA71.out.do_ HGW.out hu hf)
                  have HP72_9 := kp (HP71_9.out.do_ HA71.out.lt hf)
                  have HP72_8 := kp (HP71_8.out.do_ HA71.out.lt hf)
                  clear ho hu hf HA71 HV71 HP71_9 HP71_8
                  go_wp2_with (fail)
                  refine hK.out _ _ (HSP.out _ HA72.out.o) (fun hS => ?_)
                  clear hK K
                  try simp only [Act.put,List.getElem_toArray,List.getElem_cons_succ,List.getElem_cons_zero,List.setIfInBounds_toArray,List.set_cons_zero,List.set_cons_succ]
                  clear hS
                  have X := kp (ap_end HA72.out HP72_8.out HP72_9.out HNE.out (ro st1 se1 D67 E67) (ro st2 se2 D72 E72))
                  refine rd1 (i := 10) (by kernel_rfl) rfl (fun K hK => ?_)
                  rw [if_pos (by rfl)]
                  refine wp_store_row 31 _ _ rfl bb65 (ro st1 se1 D67 E67) rfl rfl 31 _ HP72_8.out.box (by kernel_rfl) rfl (ro1 _ _ _ _) ?_
                  refine hK.out _ _ (HSP.out _ X.out.2.1.o) (fun hS => ?_)
                  clear hK K
                  try simp only [Act.put,List.getElem_toArray,List.getElem_cons_succ,List.getElem_cons_zero,List.setIfInBounds_toArray,List.set_cons_zero,List.set_cons_succ]
                  refine rd1 (i := 11) (by kernel_rfl) rfl (fun K hK => ?_)
                  rw [if_pos (by rfl)]
                  refine wp_store_row 31 _ _ rfl bb71 (ro st2 se2 D72 E72) rfl rfl 31 _ X.out.1 (by kernel_rfl) rfl (ro1 _ _ _ _) ?_
                  refine hK.out _ _ (HSP.out _ X.out.2.2.1.o) (fun hS => ?_)
                  clear hK K
                  try simp only [Act.put,List.getElem_toArray,List.getElem_cons_succ,List.getElem_cons_zero,List.setIfInBounds_toArray,List.set_cons_zero,List.set_cons_succ]
                  refine wpAnyH_done (by kernel_rfl) ?_ _
                  go_wp2_with (fail)
                  go_meet
                  exact ⟨bb65, bb71, D67, E67, D72, E72, rfl, rfl, X.out.2.2.2.1, X.out.2.2.2.2, HR67.out, HR72.out, X.out.2.2.1.u, HWO.out _ X.out.2.2.1.o, X.out.2.2.1.b⟩
               refine arn rfl (fun K hK => ?_)
               have ha := fun o => HA67.out.bel (balloc W67 o)
               go_simp
               refine hK.out _ _ (HSP.out _ (ha _).o) (fun hS => ?_)
               clear hK K
               try simp only [Act.put,List.getElem_toArray,List.getElem_cons_succ,List.getElem_cons_zero,List.setIfInBounds_toArray,List.set_cons_zero,List.set_cons_succ]
               clear hS
               change wpAnyH _ _ _ _ _ _ _ _ (W67.alloc (.cells (rep 0 0) 31))
               have HA73 := kp (ha (.cells (rep 0 0) 31))
               have HP73_9 := kp (Bp.new HA67.out)
               have HP73_8 := kp (HP67_8.out.bel (balloc W67 (.cells (rep 0 0) 31)))
               have HNE := kp (Nat.ne_of_lt HP67_8.out.lt)
               clear ha HA67 HP67_8 
               generalize W67.heap.size = bb73 at *
               generalize W67.alloc (.cells (rep 0 0) 31) = W73 at *
               refine rd1 (i := 6) (by kernel_rfl) rfl (fun K hK => ?_)
               go_simp
               refine (Wd.own_any (wcmd r n2 x2) (.slice A2 n2 c2) W73 (H2.out.below HA73.out.b) HL2.out).mono ?_
               rintro e W74 ⟨ov74, rfl, ho, hb⟩
               have HA74 := kp (HA73.out.bel hb)
               have HV74 : Hid (Wd.Secs W74 ov74 (wcmd r n2 x2)) := kp (Wd.Own.secs ho)
               have HP74_9 := kp (HP73_9.out.bel hb)
               have HP74_8 := kp (HP73_8.out.bel hb)
               clear ho hb HA73 HP73_9 HP73_8
               go_wp2_with (fail)
               refine hK.out _ _ (HSP.out _ HA74.out.o) (fun hS => ?_)
               clear hK K
               try simp only [Act.put,List.getElem_toArray,List.getElem_cons_succ,List.getElem_cons_zero,List.setIfInBounds_toArray,List.set_cons_zero,List.set_cons_succ]
               clear hS
               refine rd1 (i := 7) (by kernel_rfl) rfl (fun K hK => ?_)
               go_simp
               refine (HC3.out _ _ HA74.out.u HV74.out).mono ?_
               rintro e W75 ⟨dvr, rfl, ho, hu, hf⟩
               have HR75 := kp (rd0 ho)
               obtain ⟨D75, E75, rfl, -, -⟩ := Wd.own_form ho
               have HA75 := kp (HA74.out.do_ HGW.out hu hf)
               have HP75_9 := kp (HP74_9.out.do_ HA74.out.lt hf)
               have HP75_8 := kp (HP74_8.out.do_ HA74.out.lt hf)
               clear ho hu hf HA74 HV74 HP74_9 HP74_8
               go_wp2_with (fail)
               refine hK.out _ _ (HSP.out _ HA75.out.o) (fun hS => ?_)
               clear hK K
               try simp only [Act.put,List.getElem_toArray,List.getElem_cons_succ,List.getElem_cons_zero,List.setIfInBounds_toArray,List.set_cons_zero,List.set_cons_succ]
               clear hS
               have X := kp (ap_end HA75.out HP75_8.out HP75_9.out HNE.out (ro st1 se1 D67 E67) (ro st2 se2 D75 E75))
               refine rd1 (i := 10) (by kernel_rfl) rfl (fun K hK => ?_)
               rw [if_pos (by rfl)]
               refine wp_store_row 31 _ _ rfl bb65 (ro st1 se1 D67 E67) rfl rfl 31 _ HP75_8.out.box (by kernel_rfl) rfl (ro1 _ _ _ _) ?_
               refine hK.out _ _ (HSP.out _ X.out.2.1.o) (fun hS => ?_)
               clear hK K
               try simp only [Act.put,List.getElem_toArray,List.getElem_cons_succ,List.getElem_cons_zero,List.setIfInBounds_toArray,List.set_cons_zero,List.set_cons_succ]
               refine rd1 (i := 11) (by kernel_rfl) rfl (fun K hK => ?_)
               rw [if_pos (by rfl)]
               refine wp_store_row 31 _ _ rfl bb73 (ro st2 se2 D75 E75) rfl rfl 31 _ X.out.1 (by kernel_rfl) rfl (ro1 _ _ _ _) ?_
               refine hK.out _ _ (HSP.out _ X.out.2.2.1.o) (fun hS => ?_)
               clear hK K
               try simp only [Act.put,List.getElem_toArray,List.getElem_cons_succ,List.getElem_cons_zero,List.setIfInBounds_toArray,List.set_cons_zero,List.set_cons_succ]
               refine wpAnyH_done (by kernel_rfl) ?_ _
               go_wp2_with (fail)
               go_meet
               exact ⟨bb65, bb73, D67, E67, D75, E75, rfl, rfl, X.out.2.2.2.1, X.out.2.2.2.2, HR67.out, HR75.out, X.out.2.2.1.u, HWO.out _ X.out.2.2.1.o, X.out.2.2.1.b⟩
            refine arn rfl (fun K hK => ?_)
            have ha := fun o => HA66.out.bel (balloc W66 o)
            go_simp
            refine hK.out _ _ (HSP.out _ (ha _).o) (fun hS => ?_)
            clear hK K
            try simp only [Act.put,List.getElem_toArray,List.getElem_cons_succ,List.getElem_cons_zero,List.setIfInBounds_toArray,List.set_cons_zero,List.set_cons_succ]
            clear hS
            change wpAnyH _ _ _ _ _ _ _ _ (W66.alloc (.cells (rep 0 0) 31))
            have HA76 := kp (ha (.cells (rep 0 0) 31))
            have HP76_9 := kp (Bp.new HA66.out)
            have HP76_8 := kp (HP66_8.out.bel (balloc W66 (.cells (rep 0 0) 31)))
            have HNE := kp (Nat.ne_of_lt HP66_8.out.lt)
            have HV76 := kp (HV66.out.below (balloc W66 (.cells (rep 0 0) 31)))
            clear ha HA66 HP66_8 HV66
            generalize W66.heap.size = bb76 at *
            generalize W66.alloc (.cells (rep 0 0) 31) = W76 at *
            refine rd1 (i := 3) (by kernel_rfl) rfl (fun K hK => ?_)
            go_simp
            refine (HC1.out _ _ HA76.out.u HV76.out).mono ?_
            rintro e W77 ⟨dvr, rfl, ho, hu, hf⟩
            have HR77 := kp (rd0 ho)
            obtain ⟨D77, E77, rfl, -, -⟩ := Wd.own_form ho
            have HA77 := kp (HA76.out.do_ HGW.out hu hf)
            have HP77_9 := kp (HP76_9.out.do_ HA76.out.lt hf)
            have HP77_8 := kp (HP76_8.out.do_ HA76.out.lt hf)
            clear ho hu hf HA76 HV76 HP76_9 HP76_8
            go_wp2_with (fail)
            refine hK.out _ _ (HSP.out _ HA77.out.o) (fun hS => ?_)
            clear hK K
            try simp only [Act.put,List.getElem_toArray,List.getElem_cons_succ,List.getElem_cons_zero,List.setIfInBounds_toArray,List.set_cons_zero,List.set_cons_succ]
            clear hS
            refine rd1 (i := 6) (by kernel_rfl) rfl (fun K hK => ?_)
            go_simp
            refine (Wd.own_any (wcmd r n2 x2) (.slice A2 n2 c2) W77 (H2.out.below HA77.out.b) HL2.out).mono ?_
            rintro e W78 ⟨ov78, rfl, ho, hb⟩
            have HA78 := kp (HA77.out.bel hb)
            have HV78 : Hid (Wd.Secs W78 ov78 (wcmd r n2 x2)) := kp (Wd.Own.secs ho)
            have HP78_9 := kp (HP77_9.out.bel hb)
            have HP78_8 := kp (HP77_8.out.bel hb)
            clear ho hb HA77 HP77_9 HP77_8
            go_wp2_with (fail)
            refine hK.out _ _ (HSP.out _ HA78.out.o) (fun hS => ?_)
            clear hK K
            try simp only [Act.put,List.getElem_toArray,List.getElem_cons_succ,List.getElem_cons_zero,List.setIfInBounds_toArray,List.set_cons_zero,List.set_cons_succ]
            clear hS
            refine rd1 (i := 7) (by kernel_rfl) rfl (fun K hK => ?_)
            go_simp
            refine (HC3.out _ _ HA78.out.u HV78.out).mono ?_
            rintro e W79 ⟨dvr, rfl, ho, hu, hf⟩
            have HR79 := kp (rd0 ho)
            obtain ⟨D79, E79, rfl, -, -⟩ := Wd.own_form ho
            have HA79 := kp (HA78.out.do_ HGW.out hu hf)
            have HP79_9 := kp (HP78_9.out.do_ HA78.out.lt hf)
            have HP79_8 := kp (HP78_8.out.do_ HA78.out.lt hf)
            clear ho hu hf HA78 HV78 HP78_9 HP78_8
            go_wp2_with (fail)
            refine hK.out _ _ (HSP.out _ HA79.out.o) (fun hS => ?_)
            clear hK K
            try simp only [Act.put,List.getElem_toArray,List.getElem_cons_succ,List.getElem_cons_zero,List.setIfInBounds_toArray,List.set_cons_zero,List.set_cons_succ]
            clear hS
            have X := kp (ap_end HA79.out HP79_8.out HP79_9.out HNE.out (ro st1 se1 D77 E77) (ro st2 se2 D79 E79))
            refine rd1 (i := 10) (by kernel_rfl) rfl (fun K hK => ?_)
            rw [if_pos (by rfl)]
            refine wp_store_row 31 _ _ rfl bb65 (ro st1 se1 D77 E77) rfl rfl 31 _ HP79_8.out.box (by kernel_rfl) rfl (ro1 _ _ _ _) ?_
            refine hK.out _ _ (HSP.out _ X.out.2.1.o) (fun hS => ?_)
            clear hK K
            try simp only [Act.put,List.getElem_toArray,List.getElem_cons_succ,List.getElem_cons_zero,List.setIfInBounds_toArray,List.set_cons_zero,List.set_cons_succ]
            refine rd1 (i := 11) (by kernel_rfl) rfl (fun K hK => ?_)
            rw [if_pos (by rfl)]
            refine wp_store_row 31 _ _ rfl bb76 (ro st2 se2 D79 E79) rfl rfl 31 _ X.out.1 (by kernel_rfl) rfl (ro1 _ _ _ _) ?_
            refine hK.out _ _ (HSP.out _ X.out.2.2.1.o) (fun hS => ?_)
            clear hK K
            try simp only [Act.put,List.getElem_toArray,List.getElem_cons_succ,List.getElem_cons_zero,List.setIfInBounds_toArray,List.set_cons_zero,List.set_cons_succ]
            refine wpAnyH_done (by kernel_rfl) ?_ _
            go_wp2_with (fail)
            go_meet
            exact ⟨bb65, bb76, D77, E77, D79, E79, rfl, rfl, X.out.2.2.2.1, X.out.2.2.2.2, HR77.out, HR79.out, X.out.2.2.1.u, HWO.out _ X.out.2.2.1.o, X.out.2.2.1.b⟩
         refine arn rfl (fun K hK => ?_)
         have ha := fun o => HA65.out.bel (balloc W65 o)
         go_simp
         refine hK.out _ _ (HSP.out _ (ha _).o) (fun hS => ?_)
         clear hK K
         try simp only [Act.put,List.getElem_toArray,List.getElem_cons_succ,List.getElem_cons_zero,List.setIfInBounds_toArray,List.set_cons_zero,List.set_cons_succ]
         clear hS
         change wpAnyH _ _ _ _ _ _ _ _ (W65.alloc (.cells (rep 0 0) 31))
         have HA80 := kp (ha (.cells (rep 0 0) 31))
         have HP80_9 := kp (Bp.new HA65.out)
         have HP80_8 := kp (HP65_8.out.bel (balloc W65 (.cells (rep 0 0) 31)))
         have HNE := kp (Nat.ne_of_lt HP65_8.out.lt)
         clear ha HA65 HP65_8 
         generalize W65.heap.size = bb80 at *
         generalize W65.alloc (.cells (rep 0 0) 31) = W80 at *
         refine rd1 (i := 2) (by kernel_rfl) rfl (fun K hK => ?_)
         go_simp
         refine (Wd.own_any (wcmd p n1 x1) (.slice A1 n1 c1) W80 (H1.out.below HA80.out.b) HL1.out).mono ?_
         rintro e W81 ⟨ov81, rfl, ho, hb⟩
         have HA81 := kp (HA80.out.bel hb)
         have HV81 : Hid (Wd.Secs W81 ov81 (wcmd p n1 x1)) := kp (Wd.Own.secs ho)
         have HP81_9 := kp (HP80_9.out.bel hb)
         have HP81_8 := kp (HP80_8.out.bel hb)
         clear ho hb HA80 HP80_9 HP80_8
         go_wp2_with (fail)
         refine hK.out _ _ (HSP.out _ HA81.out.o) (fun hS => ?_)
         clear hK K
         try simp only [Act.put,List.getElem_toArray,List.getElem_cons_succ,List.getElem_cons_zero,List.setIfInBounds_toArray,List.set_cons_zero,List.set_cons_succ]
         clear hS
         refine rd1 (i := 3) (by kernel_rfl) rfl (fun K hK => ?_)
         go_simp
         refine (HC1.out _ _ HA81.out.u HV81.out).mono ?_
         rintro e W82 ⟨dvr, rfl, ho, hu, hf⟩
         have HR82 := kp (rd0 ho)
         obtain ⟨D82, E82, rfl, -, -⟩ := Wd.own_form ho
         have HA82 := kp (HA81.out.do_ HGW.out hu hf)
         have HP82_9 := kp (HP81_9.out.do_ HA81.out.lt hf)
         have HP82_8 := kp (HP81_8.out.do_ HA81.out.lt hf)
         clear ho hu hf HA81 HV81 HP81_9 HP81_8
         go_wp2_with (fail)
         refine hK.out _ _ (HSP.out _ HA82.out.o) (fun hS => ?_)
         clear hK K
         try simp only [Act.put,List.getElem_toArray,List.getElem_cons_succ,List.getElem_cons_zero,List.setIfInBounds_toArray,List.set_cons_zero,List.set_cons_succ]
         clear hS
         refine rd1 (i := 6) (by kernel_rfl) rfl (fun K hK => ?_)
         go_simp
         refine (Wd.own_any (wcmd r n2 x2) (.slice A2 n2 c2) W82 (H2.out.below HA82.out.b) HL2.out).mono ?_
         rintro e W83 ⟨ov83, rfl, ho, hb⟩
         have HA83 := kp (HA82.out.bel hb)
         have HV83 : Hid (Wd.Secs W83 ov83 (wcmd r n2 x2)) := kp (Wd.Own.secs ho)
         have HP83_9 := kp (HP82_9.out.bel hb)
         have HP83_8 := kp (HP82_8.out.bel hb)
         clear ho hb HA82 HP82_9 HP82_8
         go_wp2_with (fail)
         refine hK.out _ _ (HSP.out _ HA83.out.o) (fun hS => ?_)
         clear hK K
         try simp only [Act.put,List.getElem_toArray,List.getElem_cons_succ,List.getElem_cons_zero,List.setIfInBounds_toArray,List.set_cons_zero,List.set_cons_succ]
         clear hS
         refine rd1 (i := 7) (by kernel_rfl) rfl (fun K hK => ?_)
         go_simp
         refine (HC3.out _ _ HA83.out.u HV83.out).mono ?_
         rintro e W84 ⟨dvr, rfl, ho, hu, hf⟩
         have HR84 := kp (rd0 ho)
         obtain ⟨D84, E84, rfl, -, -⟩ := Wd.own_form ho
         have HA84 := kp (HA83.out.do_ HGW.out hu hf)
         have HP84_9 := kp (HP83_9.out.do_ HA83.out.lt hf)
         have HP84_8 := kp (HP83_8.out.do_ HA83.out.lt hf)
         clear ho hu hf HA83 HV83 HP83_9 HP83_8
         go_wp2_with (fail)
         refine hK.out _ _ (HSP.out _ HA84.out.o) (fun hS => ?_)
         clear hK K
         try simp only [Act.put,List.getElem_toArray,List.getElem_cons_succ,List.getElem_cons_zero,List.setIfInBounds_toArray,List.set_cons_zero,List.set_cons_succ]
         clear hS
         have X := kp (ap_end HA84.out HP84_8.out HP84_9.out HNE.out (ro st1 se1 D82 E82) (ro st2 se2 D84 E84))
         refine rd1 (i := 10) (by kernel_rfl) rfl (fun K hK => ?_)
         rw [if_pos (by rfl)]
         refine wp_store_row 31 _ _ rfl bb65 (ro st1 se1 D82 E82) rfl rfl 31 _ HP84_8.out.box (by kernel_rfl) rfl (ro1 _ _ _ _) ?_
         refine hK.out _ _ (HSP.out _ X.out.2.1.o) (fun hS => ?_)
         clear hK K
         try simp only [Act.put,List.getElem_toArray,List.getElem_cons_succ,List.getElem_cons_zero,List.setIfInBounds_toArray,List.set_cons_zero,List.set_cons_succ]
         refine rd1 (i := 11) (by kernel_rfl) rfl (fun K hK => ?_)
         rw [if_pos (by rfl)]
         refine wp_store_row 31 _ _ rfl bb80 (ro st2 se2 D84 E84) rfl rfl 31 _ X.out.1 (by kernel_rfl) rfl (ro1 _ _ _ _) ?_
         refine hK.out _ _ (HSP.out _ X.out.2.2.1.o) (fun hS => ?_)
         clear hK K
         try simp only [Act.put,List.getElem_toArray,List.getElem_cons_succ,List.getElem_cons_zero,List.setIfInBounds_toArray,List.set_cons_zero,List.set_cons_succ]
         refine wpAnyH_done (by kernel_rfl) ?_ _
         go_wp2_with (fail)
         go_meet
         exact ⟨bb65, bb80, D82, E82, D84, E84, rfl, rfl, X.out.2.2.2.1, X.out.2.2.2.2, HR82.out, HR84.out, X.out.2.2.1.u, HWO.out _ X.out.2.2.1.o, X.out.2.2.1.b⟩
      refine arn rfl (fun K hK => ?_)
      have ha := fun o => HA0.out.bel (balloc wS o)
      go_simp
      refine hK.out _ _ (HSP.out _ (ha _).o) (fun hS => ?_)
      clear hK K
      try simp only [Act.put,List.getElem_toArray,List.getElem_cons_succ,List.getElem_cons_zero,List.setIfInBounds_toArray,List.set_cons_zero,List.set_cons_succ]
      clear hS
      change wpAnyH _ _ _ _ _ _ _ _ (wS.alloc (.cells (rep 0 0) 31))
      have HA85 := kp (ha (.cells (rep 0 0) 31))
      have HP85_9 := kp (Bp.new HA0.out)
      clear ha HA0  
      generalize wS.heap.size = bb85 at *
      generalize wS.alloc (.cells (rep 0 0) 31) = W85 at *
      refine rdn [2, 8] (by kernel_rfl) (by simp) ?_
      refine arc rfl (fun K hK => ?_) ?_
      · as_aux_lemma =>
         go_simp
         refine (Wd.own_any (wcmd p n1 x1) (.slice A1 n1 c1) W85 (H1.out.below HA85.out.b) HL1.out).mono ?_
         rintro e W86 ⟨ov86, rfl, ho, hb⟩
         have HA86 := kp (HA85.out.bel hb)
         have HV86 : Hid (Wd.Secs W86 ov86 (wcmd p n1 x1)) := kp (Wd.Own.secs ho)
         have HP86_9 := kp (HP85_9.out.bel hb)
         clear ho hb HA85 HP85_9
         go_wp2_with (fail)
         refine hK.out _ _ (HSP.out _ HA86.out.o) (fun hS => ?_)
         clear hK K
         try simp only [Act.put,List.getElem_toArray,List.getElem_cons_succ,List.getElem_cons_zero,List.setIfInBounds_toArray,List.set_cons_zero,List.set_cons_succ]
         clear hS
         refine rdn [3, 8] (by kernel_rfl) (by simp) ?_
         refine arc rfl (fun K hK => ?_) ?_
         · as_aux_lemma =>
            go_simp
            refine (HC1.out _ _ HA86.out.u HV86.out).mono ?_
            rintro e W87 ⟨dvr, rfl, ho, hu, hf⟩
            have HR87 := kp (rd0 ho)
            obtain ⟨D87, E87, rfl, -, -⟩ := Wd.own_form ho
            have HA87 := kp (HA86.out.do_ HGW.out hu hf)
            have HP87_9 := kp (HP86_9.out.do_ HA86.out.lt hf)
            clear ho hu hf HA86 HV86 HP86_9
            go_wp2_with (fail)
            refine hK.out _ _ (HSP.out _ HA87.out.o) (fun hS => ?_)
            clear hK K
            try simp only [Act.put,List.getElem_toArray,List.getElem_cons_succ,List.getElem_cons_zero,List.setIfInBounds_toArray,List.set_cons_zero,List.set_cons_succ]
            clear hS
            refine rdn [6, 8] (by kernel_rfl) (by simp) ?_
            refine arc rfl (fun K hK => ?_) ?_
            · as_aux_lemma =>
               go_simp
               refine (Wd.own_any (wcmd r n2 x2) (.slice A2 n2 c2) W87 (H2.out.below HA87.out.b) HL2.out).mono ?_
               rintro e W88 ⟨ov88, rfl, ho, hb⟩
               have HA88 := kp (HA87.out.bel hb)
               have HV88 : Hid (Wd.Secs W88 ov88 (wcmd r n2 x2)) := kp (Wd.Own.secs ho)
               have HP88_9 := kp (HP87_9.out.bel hb)
               clear ho hb HA87 HP87_9
               go_wp2_with (fail)
               refine hK.out _ _ (HSP.out _ HA88.out.o) (fun hS => ?_)
               clear hK K
               try simp only [Act.put,List.getElem_toArray,List.getElem_cons_succ,List.getElem_cons_zero,List.setIfInBounds_toArray,List.set_cons_zero,List.set_cons_succ]
               clear hS
               refine rdn [7, 8] (by kernel_rfl) (by simp) ?_
               refine arc rfl (fun K hK => ?_) ?_
               · as_aux_lemma =>
                  go_simp
                  refine (HC3.out _ _ HA88.out.u HV88.out).mono ?_
                  rintro e W89 ⟨dvr, rfl, ho, hu, hf⟩
                  have HR89 := kp (rd0 ho)
                  obtain ⟨D89, E89, rfl, -, -⟩ := Wd.own_form ho
                  have HA89 := kp (HA88.out.do_ HGW.out hu hf)
                  have HP89_9 := kp (HP88_9.out.do_ HA88.out.lt hf)
                  clear ho hu hf HA88 HV88 HP88_9
                  go_wp2_with (fail)
                  refine hK.out _ _ (HSP.out _ HA89.out.o) (fun hS => ?_)
                  clear hK K
                  try simp only [Act.put,List.getElem_toArray,List.getElem_cons_succ,List.getElem_cons_zero,List.setIfInBounds_toArray,List.set_cons_zero,List.set_cons_succ]
                  clear hS
                  refine rd1 (i := 8) (by kernel_rfl) rfl (fun K hK => ?_)
                  have ha := fun o => HA89.out.bel (balloc W89 o)
                  go_simp
                  refine hK.out _ _ (HSP.out _ (ha _).o) (fun hS => ?_)
                  clear hK K
                  try simp only [Act.put,List.getElem_toArray,List.getElem_cons_succ,List.getElem_cons_zero,List.setIfInBounds_toArray,List.set_cons_zero,List.set_cons_succ]
                  clear hS
                  change wpAnyH _ _ _ _ _ _ _ _ (W89.alloc (.cells (rep 0 0) 31))
                  have HA90 := kp (ha (.cells (rep 0 0) 31))
                  have HP90_8 := kp (Bp.new HA89.out)
                  have HP90_9 := kp (HP89_9.out.bel (balloc W89 (.cells (rep 0 0) 31)))
                  have HNE := kp (Nat.ne_of_lt HP89_9.out.lt)
                  clear ha HA89 HP89_9 
                  generalize W89.heap.size = bb90 at *
                  generalize W89.alloc (.cells (rep 0 0) 31) = W90 at *
                  have X := kp (ap_end HA90.out HP90_8.out HP90_9.out HNE.out.symm (ro st1 se1 D87 E87) (ro st2 se2 D89 E89))
                  refine rd1 (i := 10) (by kernel_rfl) rfl (fun K hK => ?_)
                  rw [if_pos (by rfl)]
                  refine wp_store_row 31 _ _ rfl bb90 (ro st1 se1 D87 E87) rfl rfl 31 _ HP90_8.out.box (by kernel_rfl) rfl (ro1 _ _ _ _) ?_
                  refine hK.out _ _ (HSP.out _ X.out.2.1.o) (fun hS => ?_)
                  clear hK K
                  try simp only [Act.put,List.getElem_toArray,List.getElem_cons_succ,List.getElem_cons_zero,List.setIfInBounds_toArray,List.set_cons_zero,List.set_cons_succ]
                  refine rd1 (i := 11) (by kernel_rfl) rfl (fun K hK => ?_)
                  rw [if_pos (by rfl)]
                  refine wp_store_row 31 _ _ rfl bb85 (ro st2 se2 D89 E89) rfl rfl 31 _ X.out.1 (by kernel_rfl) rfl (ro1 _ _ _ _) ?_
                  refine hK.out _ _ (HSP.out _ X.out.2.2.1.o) (fun hS => ?_)
                  clear hK K
                  try simp only [Act.put,List.getElem_toArray,List.getElem_cons_succ,List.getElem_cons_zero,List.setIfInBounds_toArray,List.set_cons_zero,List.set_cons_succ]
                  refine wpAnyH_done (by kernel_rfl) ?_ _
                  go_wp2_with (fail)
                  go_meet
                  exact ⟨bb90, bb85, D87, E87, D89, E89, rfl, rfl, X.out.2.2.2.1, X.out.2.2.2.2, HR87.out, HR89.out, X.out.2.2.1.u, HWO.out _ X.out.2.2.1.o, X.out.2.2.1.b⟩
               refine arn rfl (fun K hK => ?_)
               have ha := fun o => HA88.out.bel (balloc W88 o)
               go_simp
               refine hK.out _ _ (HSP.out _ (ha _).o) (fun hS => ?_)
               clear hK K
               try simp only [Act.put,List.getElem_toArray,List.getElem_cons_succ,List.getElem_cons_zero,List.setIfInBounds_toArray,List.set_cons_zero,List.set_cons_succ]
               clear hS
               change wpAnyH _ _ _ _ _ _ _ _ (W88.alloc (.cells (rep 0 0) 31))
               have HA91 := kp (ha (.cells (rep 0 0) 31))
               have HP91_8 := kp (Bp.new HA88.out)
               have HP91_9 := kp (HP88_9.out.bel (balloc W88 (.cells (rep 0 0) 31)))
               have HNE := kp (Nat.ne_of_lt HP88_9.out.lt)
               have HV91 := kp (HV88.out.below (balloc W88 (.cells (rep 0 0) 31)))
               clear ha HA88 HP88_9 HV88
               generalize W88.heap.size = bb91 at *
               generalize W88.alloc (.cells (rep 0 0) 31) = W91 at *
               refine rd1 (i := 7) (by kernel_rfl) rfl (fun K hK => ?_)
               go_simp
               refine (HC3.out _ _ HA91.out.u HV91.out).mono ?_
               rintro e W92 ⟨dvr, rfl, ho, hu, hf⟩
               have HR92 := kp (rd0 ho)
               obtain ⟨D92, E92, rfl, -, -⟩ := Wd.own_form ho
               have HA92 := kp (HA91.out.do_ HGW.out hu hf)
               have HP92_8 := kp (HP91_8.out.do_ HA91.out.lt hf)
               have HP92_9 := kp (HP91_9.out.do_ HA91.out.lt hf)
               clear ho hu hf HA91 HV91 HP91_8 HP91_9
               go_wp2_with (fail)
               refine hK.out _ _ (HSP.out _ HA92.out.o) (fun hS => ?_)
               clear hK K
               try simp only [Act.put,List.getElem_toArray,List.getElem_cons_succ,List.getElem_cons_zero,List.setIfInBounds_toArray,List.set_cons_zero,List.set_cons_succ]
               clear hS
               have X := kp (ap_end HA92.out HP92_8.out HP92_9.out HNE.out.symm (ro st1 se1 D87 E87) (ro st2 se2 D92 E92))
               refine rd1 (i := 10) (by kernel_rfl) rfl (fun K hK => ?_)
               rw [if_pos (by rfl)]
               refine wp_store_row 31 _ _ rfl bb91 (ro st1 se1 D87 E87) rfl rfl 31 _ HP92_8.out.box (by kernel_rfl) rfl (ro1 _ _ _ _) ?_
               refine hK.out _ _ (HSP.out _ X.out.2.1.o) (fun hS => ?_)
               clear hK K
               try simp only [Act.put,List.getElem_toArray,List.getElem_cons_succ,List.getElem_cons_zero,List.setIfInBounds_toArray,List.set_cons_zero,List.set_cons_succ]
               refine rd1 (i := 11) (by kernel_rfl) rfl (fun K hK => ?_)
               rw [if_pos (by rfl)]
               refine wp_store_row 31 _ _ rfl bb85 (ro st2 se2 D92 E92) rfl rfl 31 _ X.out.1 (by kernel_rfl) rfl (ro1 _ _ _ _) ?_
               refine hK.out _ _ (HSP.out _ X.out.2.2.1.o) (fun hS => ?_)
               clear hK K
               try simp only [Act.put,List.getElem_toArray,List.getElem_cons_succ,List.getElem_cons_zero,List.setIfInBounds_toArray,List.set_cons_zero,List.set_cons_succ]
               refine wpAnyH_done (by kernel_rfl) ?_ _
               go_wp2_with (fail)
               go_meet
               exact ⟨bb91, bb85, D87, E87, D92, E92, rfl, rfl, X.out.2.2.2.1, X.out.2.2.2.2, HR87.out, HR92.out, X.out.2.2.1.u, HWO.out _ X.out.2.2.1.o, X.out.2.2.1.b⟩
            refine arn rfl (fun K hK => ?_)
            have ha := fun o => HA87.out.bel (balloc W87 o)
            go_simp
            refine hK.out _ _ (HSP.out _ (ha _).o) (fun hS => ?_)
            clear hK K
            try simp only [Act.put,List.getElem_toArray,List.getElem_cons_succ,List.getElem_cons_zero,List.setIfInBounds_toArray,List.set_cons_zero,List.set_cons_succ]
            clear hS
            change wpAnyH _ _ _ _ _ _ _ _ (W87.alloc (.cells (rep 0 0) 31))
            have HA93 := kp (ha (.cells (rep 0 0) 31))
            have HP93_8 := kp (Bp.new HA87.out)
            have HP93_9 := kp (HP87_9.out.bel (balloc W87 (.cells (rep 0 0) 31)))
            have HNE := kp (Nat.ne_of_lt HP87_9.out.lt)
            clear ha HA87 HP87_9 
            generalize W87.heap.size = bb93 at *
            generalize W87.alloc (.cells (rep 0 0) 31) = W93 at *
            refine rd1 (i := 6) (by kernel_rfl) rfl (fun K hK => ?_)
            go_simp
            refine (Wd.own_any (wcmd r n2 x2) (.slice A2 n2 c2) W93 (H2.out.below HA93.out.b) HL2.out).mono ?_
            rintro e W94 ⟨ov94, rfl, ho, hb⟩
            have HA94 := kp (HA93.out.bel hb)
            have HV94 : Hid (Wd.Secs W94 ov94 (wcmd r n2 x2)) := kp (Wd.Own.secs ho)
            have HP94_8 := kp (HP93_8.out.bel hb)
            have HP94_9 := kp (HP93_9.out.bel hb)
            clear ho hb HA93 HP93_8 HP93_9
            go_wp2_with (fail)
            refine hK.out _ _ (HSP.out _ HA94.out.o) (fun hS => ?_)
            clear hK K
            try simp only [Act.put,List.getElem_toArray,List.getElem_cons_succ,List.getElem_cons_zero,List.setIfInBounds_toArray,List.set_cons_zero,List.set_cons_succ]
            clear hS
            refine rd1 (i := 7) (by kernel_rfl) rfl (fun K hK => ?_)
            go_simp
            refine (HC3.out _ _ HA94.out.u HV94.out).mono ?_
            rintro e W95 ⟨dvr, rfl, ho, hu, hf⟩
            have HR95 := kp (rd0 ho)
            obtain ⟨D95, E95, rfl, -, -⟩ := Wd.own_form ho
            have HA95 := kp (HA94.out.do_ HGW.out hu hf)
            have HP95_8 := kp (HP94_8.out.do_ HA94.out.lt hf)
            have HP95_9 := kp (HP94_9.out.do_ HA94.out.lt hf)
            clear ho hu hf HA94 HV94 HP94_8 HP94_9
            go_wp2_with (fail)
            refine hK.out _ _ (HSP.out _ HA95.out.o) (fun hS => ?_)
            clear hK K
            try simp only [Act.put,List.getElem_toArray,List.getElem_cons_succ,List.getElem_cons_zero,List.setIfInBounds_toArray,List.set_cons_zero,List.set_cons_succ]
            clear hS
            have X := kp (ap_end HA95.out HP95_8.out HP95_9.out HNE.out.symm (ro st1 se1 D87 E87) (ro st2 se2 D95 E95))
            refine rd1 (i := 10) (by kernel_rfl) rfl (fun K hK => ?_)
            rw [if_pos (by rfl)]
            refine wp_store_row 31 _ _ rfl bb93 (ro st1 se1 D87 E87) rfl rfl 31 _ HP95_8.out.box (by kernel_rfl) rfl (ro1 _ _ _ _) ?_
            refine hK.out _ _ (HSP.out _ X.out.2.1.o) (fun hS => ?_)
            clear hK K
            try simp only [Act.put,List.getElem_toArray,List.getElem_cons_succ,List.getElem_cons_zero,List.setIfInBounds_toArray,List.set_cons_zero,List.set_cons_succ]
            refine rd1 (i := 11) (by kernel_rfl) rfl (fun K hK => ?_)
            rw [if_pos (by rfl)]
            refine wp_store_row 31 _ _ rfl bb85 (ro st2 se2 D95 E95) rfl rfl 31 _ X.out.1 (by kernel_rfl) rfl (ro1 _ _ _ _) ?_
            refine hK.out _ _ (HSP.out _ X.out.2.2.1.o) (fun hS => ?_)
            clear hK K
            try simp only [Act.put,List.getElem_toArray,List.getElem_cons_succ,List.getElem_cons_zero,List.setIfInBounds_toArray,List.set_cons_zero,List.set_cons_succ]
            refine wpAnyH_done (by kernel_rfl) ?_ _
            go_wp2_with (fail)
            go_meet
            exact ⟨bb93, bb85, D87, E87, D95, E95, rfl, rfl, X.out.2.2.2.1, X.out.2.2.2.2, HR87.out, HR95.out, X.out.2.2.1.u, HWO.out _ X.out.2.2.1.o, X.out.2.2.1.b⟩
         refine arn rfl (fun K hK => ?_)
         have ha := fun o => HA86.out.bel (balloc W86 o)
         go_simp
         refine hK.out _ _ (HSP.out _ (ha _).o) (fun hS => ?_)
         clear hK K
         try simp only [Act.put,List.getElem_toArray,List.getElem_cons_succ,List.getElem_cons_zero,List.setIfInBounds_toArray,List.set_cons_zero,List.set_cons_succ]
         clear hS
         change wpAnyH _ _ _ _ _ _ _ _ (W86.alloc (.cells (rep 0 0) 31))
         have HA96 := kp (ha (.cells (rep 0 0) 31))
         have HP96_8 := kp (Bp.new HA86.out)
         have HP96_9 := kp (HP86_9.out.bel (balloc W86 (.cells (rep 0 0) 31)))
         have HNE := kp (Nat.ne_of_lt HP86_9.out.lt)
         have HV96 := kp (HV86.out.below (balloc W86 (.cells (rep 0 0) 31)))
         clear ha HA86 HP86_9 HV86
         generalize W86.heap.size = bb96 at *
         generalize W86.alloc (.cells (rep 0 0) 31) = W96 at *
         refine rd1 (i := 3) (by kernel_rfl) rfl (fun K hK => ?_)
         go_simp
         refine (HC1.out _ _ HA96.out.u HV96.out).mono ?_
         rintro e W97 ⟨dvr, rfl, ho, hu, hf⟩
         have HR97 := kp (rd0 ho)
         obtain ⟨D97, E97, rfl, -, -⟩ := Wd.own_form ho
         have HA97 := kp (HA96.out.do_ HGW.out hu hf)
         have HP97_8 := kp (HP96_8.out.do_ HA96.out.lt hf)
         have HP97_9 := kp (HP96_9.out.do_ HA96.out.lt hf)
         clear ho hu hf HA96 HV96 HP96_8 HP96_9
         go_wp2_with (fail)
         refine hK.out _ _ (HSP.out _ HA97.out.o) (fun hS => ?_)
         clear hK K
         try simp only [Act.put,List.getElem_toArray,List.getElem_cons_succ,List.getElem_cons_zero,List.setIfInBounds_toArray,List.set_cons_zero,List.set_cons_succ]
         clear hS
         refine rd1 (i := 6) (by kernel_rfl) rfl (fun K hK => ?_)
         go_simp
         refine (Wd.own_any (wcmd r n2 x2) (.slice A2 n2 c2) W97 (H2.out.below HA97.out.b) HL2.out).mono ?_
         rintro e W98 ⟨ov98, rfl, ho, hb⟩
         have HA98 := kp (HA97.out.bel hb)
         have HV98 : Hid (Wd.Secs W98 ov98 (wcmd r n2 x2)) := kp (Wd.Own.secs ho)
         have HP98_8 := kp (HP97_8.out.bel hb)
         have HP98_9 := kp (HP97_9.out.bel hb)
         clear ho hb HA97 HP97_8 HP97_9
         go_wp2_with (fail)
         refine hK.out _ _ (HSP.out _ HA98.out.o) (fun hS => ?_)
         clear hK K
         try simp only [Act.put,List.getElem_toArray,List.getElem_cons_succ,List.getElem_cons_zero,List.setIfInBounds_toArray,List.set_cons_zero,List.set_cons_succ]
         clear hS
         refine rd1 (i := 7) (by kernel_rfl) rfl (fun K hK => ?_)
         go_simp
         refine (HC3.out _ _ HA98.out.u HV98.out).mono ?_
         rintro e W99 ⟨dvr, rfl, ho, hu, hf⟩
         have HR99 := kp (rd0 ho)
         obtain ⟨D99, E99, rfl, -, -⟩ := Wd.own_form ho
         have HA99 := kp (HA98.out.do_ HGW.out hu hf)
         have HP99_8 := kp (HP98_8.out.do_ HA98.out.lt hf)
         have HP99_9 := kp (HP98_9.out.do_ HA98.out.lt hf)
         clear ho hu hf HA98 HV98 HP98_8 HP98_9
         go_wp2_with (fail)
         refine hK.out _ _ (HSP.out _ HA99.out.o) (fun hS => ?_)
         clear hK K
         try simp only [Act.put,List.getElem_toArray,List.getElem_cons_succ,List.getElem_cons_zero,List.setIfInBounds_toArray,List.set_cons_zero,List.set_cons_succ]
         clear hS
         have X := kp (ap_end HA99.out HP99_8.out HP99_9.out HNE.out.symm (ro st1 se1 D97 E97) (ro st2 se2 D99 E99))
         refine rd1 (i := 10) (by kernel_rfl) rfl (fun K hK => ?_)
         rw [if_pos (by rfl)]
         refine wp_store_row 31 _ _ rfl bb96 (ro st1 se1 D97 E97) rfl rfl 31 _ HP99_8.out.box (by kernel_rfl) rfl (ro1 _ _ _ _) ?_
         refine hK.out _ _ (HSP.out _ X.out.2.1.o) (fun hS => ?_)
         clear hK K
         try simp only [Act.put,List.getElem_toArray,List.getElem_cons_succ,List.getElem_cons_zero,List.setIfInBounds_toArray,List.set_cons_zero,List.set_cons_succ]
         refine rd1 (i := 11) (by kernel_rfl) rfl (fun K hK => ?_)
         rw [if_pos (by rfl)]
         refine wp_store_row 31 _ _ rfl bb85 (ro st2 se2 D99 E99) rfl rfl 31 _ X.out.1 (by kernel_rfl) rfl (ro1 _ _ _ _) ?_
         refine hK.out _ _ (HSP.out _ X.out.2.2.1.o) (fun hS => ?_)
         clear hK K
         try simp only [Act.put,List.getElem_toArray,List.getElem_cons_succ,List.getElem_cons_zero,List.setIfInBounds_toArray,List.set_cons_zero,List.set_cons_succ]
         refine wpAnyH_done (by kernel_rfl) ?_ _
         go_wp2_with (fail)
         go_meet
         exact ⟨bb96, bb85, D97, E97, D99, E99, rfl, rfl, X.out.2.2.2.1, X.out.2.2.2.2, HR97.out, HR99.out, X.out.2.2.1.u, HWO.out _ X.out.2.2.1.o, X.out.2.2.1.b⟩
      refine arn rfl (fun K hK => ?_)
      have ha := fun o => HA85.out.bel (balloc W85 o)
      go_simp
      refine hK.out _ _ (HSP.out _ (ha _).o) (fun hS => ?_)
      clear hK K
      try simp only [Act.put,List.getElem_toArray,List.getElem_cons_succ,List.getElem_cons_zero,List.setIfInBounds_toArray,List.set_cons_zero,List.set_cons_succ]
      clear hS
      change wpAnyH _ _ _ _ _ _ _ _ (W85.alloc (.cells (rep 0 0) 31))
      have HA100 := kp (ha (.cells (rep 0 0) 31))
      have HP100_8 := kp (Bp.new HA85.out)
      have HP100_9 := kp (HP85_9.out.bel (balloc W85 (.cells (rep 0 0) 31)))
      have HNE := kp (Nat.ne_of_lt HP85_9.out.lt)
      clear ha HA85 HP85_9 
      generalize W85.heap.size = bb100 at *
      generalize W85.alloc (.cells (rep 0 0) 31) = W100 at *
      refine rd1 (i := 2) (by kernel_rfl) rfl (fun K hK => ?_)
      go_simp
      refine (Wd.own_any (wcmd p n1 x1) (.slice A1 n1 c1) W100 (H1.out.below HA100.out.b) HL1.out).mono ?_
      rintro e W101 ⟨ov101, rfl, ho, hb⟩
      have HA101 := kp (HA100.out.bel hb)
      have HV101 : Hid (Wd.Secs W101 ov101 (wcmd p n1 x1)) := kp (Wd.Own.secs ho)
      have HP101_8 := kp (HP100_8.out.bel hb)
      have HP101_9 := kp (HP100_9.out.bel hb)
      clear ho hb HA100 HP100_8 HP100_9
      go_wp2_with (fail)
      refine hK.out _ _ (HSP.out _ HA101.out.o) (fun hS => ?_)
      clear hK K
      try simp only [Act.put,List.getElem_toArray,List.getElem_cons_succ,List.getElem_cons_zero,List.setIfInBounds_toArray,List.set_cons_zero,List.set_cons_succ]
      clear hS
      refine rd1 (i := 3) (by kernel_rfl) rfl (fun K hK => ?_)
      go_simp
      refine (HC1.out _ _ HA101.out.u HV101.out).mono ?_
      rintro e W102 ⟨dvr, rfl, ho, hu, hf⟩
      have HR102 := kp (rd0 ho)
      obtain ⟨D102, E102, rfl, -, -⟩ := Wd.own_form ho
      have HA102 := kp (HA101.out.do_ HGW.out hu hf)
      have HP102_8 := kp (HP101_8.out.do_ HA101.out.lt hf)
      have HP102_9 := kp (HP101_9.out.do_ HA101.out.lt hf)
      clear ho hu hf HA101 HV101 HP101_8 HP101_9
      go_wp2_with (fail)
      refine hK.out _ _ (HSP.out _ HA102.out.o) (fun hS => ?_)
      clear hK K
      try simp only [Act.put,List.getElem_toArray,List.getElem_cons_succ,List.getElem_cons_zero,List.setIfInBounds_toArray,List.set_cons_zero,List.set_cons_succ]
      clear hS
      refine rd1 (i := 6) (by kernel_rfl) rfl (fun K hK => ?_)
      go_simp
      refine (Wd.own_any (wcmd r n2 x2) (.slice A2 n2 c2) W102 (H2.out.below HA102.out.b) HL2.out).mono ?_
      rintro e W103 ⟨ov103, rfl, ho, hb⟩
      have HA103 := kp (HA102.out.bel hb)
      have HV103 : Hid (Wd.Secs W103 ov103 (wcmd r n2 x2)) := kp (Wd.Own.secs ho)
      have HP103_8 := kp (HP102_8.out.bel hb)
      have HP103_9 := kp (HP102_9.out.bel hb)
      clear ho hb HA102 HP102_8 HP102_9
      go_wp2_with (fail)
      refine hK.out _ _ (HSP.out _ HA103.out.o) (fun hS => ?_)
      clear hK K
      try simp only [Act.put,List.getElem_toArray,List.getElem_cons_succ,List.getElem_cons_zero,List.setIfInBounds_toArray,List.set_cons_zero,List.set_cons_succ]
      clear hS
      refine rd1 (i := 7) (by kernel_rfl) rfl (fun K hK => ?_)
      go_simp
      refine (HC3.out _ _ HA103.out.u HV103.out).mono ?_
      rintro e W104 ⟨dvr, rfl, ho, hu, hf⟩
      have HR104 := kp (rd0 ho)
      obtain ⟨D104, E104, rfl, -, -⟩ := Wd.own_form ho
      have HA104 := kp (HA103.out.do_ HGW.out hu hf)
      have HP104_8 := kp (HP103_8.out.do_ HA103.out.lt hf)
      have HP104_9 := kp (HP103_9.out.do_ HA103.out.lt hf)
      clear ho hu hf HA103 HV103 HP103_8 HP103_9
      go_wp2_with (fail)
      refine hK.out _ _ (HSP.out _ HA104.out.o) (fun hS => ?_)
      clear hK K
      try simp only [Act.put,List.getElem_toArray,List.getElem_cons_succ,List.getElem_cons_zero,List.setIfInBounds_toArray,List.set_cons_zero,List.set_cons_succ]
      clear hS
      have X := kp (ap_end HA104.out HP104_8.out HP104_9.out HNE.out.symm (ro st1 se1 D102 E102) (ro st2 se2 D104 E104))
      refine rd1 (i := 10) (by kernel_rfl) rfl (fun K hK => ?_)
      rw [if_pos (by rfl)]
      refine wp_store_row 31 _ _ rfl bb100 (ro st1 se1 D102 E102) rfl rfl 31 _ HP104_8.out.box (by kernel_rfl) rfl (ro1 _ _ _ _) ?_
      refine hK.out _ _ (HSP.out _ X.out.2.1.o) (fun hS => ?_)
      clear hK K
      try simp only [Act.put,List.getElem_toArray,List.getElem_cons_succ,List.getElem_cons_zero,List.setIfInBounds_toArray,List.set_cons_zero,List.set_cons_succ]
      refine rd1 (i := 11) (by kernel_rfl) rfl (fun K hK => ?_)
      rw [if_pos (by rfl)]
      refine wp_store_row 31 _ _ rfl bb85 (ro st2 se2 D104 E104) rfl rfl 31 _ X.out.1 (by kernel_rfl) rfl (ro1 _ _ _ _) ?_
      refine hK.out _ _ (HSP.out _ X.out.2.2.1.o) (fun hS => ?_)
      clear hK K
      try simp only [Act.put,List.getElem_toArray,List.getElem_cons_succ,List.getElem_cons_zero,List.setIfInBounds_toArray,List.set_cons_zero,List.set_cons_succ]
      refine wpAnyH_done (by kernel_rfl) ?_ _
      go_wp2_with (fail)
      go_meet
      exact ⟨bb100, bb85, D102, E102, D104, E104, rfl, rfl, X.out.2.2.2.1, X.out.2.2.2.2, HR102.out, HR104.out, X.out.2.2.1.u, HWO.out _ X.out.2.2.1.o, X.out.2.2.1.b⟩
  case rest =>
    obtain ⟨b16, b17, Da, Ea, Db, Eb, rfl, rfl, hx16, hx17, hra, hrb, hu8, ho8, hb8⟩ := hcut
    obtain ⟨wf, rfl⟩ : ∃ W : World, W = wc := ⟨_, rfl⟩
    have HU5 := kp hu8
    have HB5 := kp hb8
    have HP16 := kp hx16
    have HP17 := kp hx17
    have HRA := kp hra
    have HRB := kp hrb
    have HV5 := kp (HV4.out.kept ho8 (by have := HSEP.out; simp; omega) (by have := HSEP.out; simp; omega) (by have := HSEP.out; simp; omega))
    have HX24 := kp ((ho8.block b14 (lt_of_heap HX14.out) (by have := HFU.out; simp; omega)).trans HX14.out)
    have HX25 := kp ((ho8.block b15 (lt_of_heap HX15.out) (by have := HFU.out; simp; omega)).trans HX15.out)
    have HK16 : Hid (b16 < wf.heap.size ∧ b17 < wf.heap.size) := kp ⟨lt_of_heap hx16, lt_of_heap hx17⟩
    have HQ16 : Hid ((b16 ≠ gd2 ∧ b16 ≠ gs2) ∧ (b17 ≠ gd2 ∧ b17 ≠ gs2)) := kp ⟨⟨fun e => ne_rd hx16 HV5.out.d.heap e, fun e => ne_rs hx16 HV5.out.s e⟩, ⟨fun e => ne_rd hx17 HV5.out.d.heap e, fun e => ne_rs hx17 HV5.out.s e⟩⟩
    clear hx16 hx17 hra hrb hu8 ho8 hb8 HU4 HV4 HB4 HX14 HX15 HD1 HD2
    have HD1 := kp (wdo60 (ini := 1) ⟨by decide, by decide⟩ p n1 x1 st1 se1 HST1.out)
    have HD2 := kp (wdo60 (ini := 2) ⟨by decide, by decide⟩ r n2 x2 st2 se2 HST2.out)
    go_upto_region 9 with (fail)
    go_cut [18, 19] (fun v18 v19 wx => ∃ b18 b19 Dc Ec Dd Ed, v18 = .pointer (some ⟨b18, 0, none⟩) ∧ v19 = .pointer (some ⟨b19, 0, none⟩) ∧ wx.heap[b18]? = some (.cells #[.int .i64 st2, .int .i64 se2, .slice Dc 0 Ec] 31 (0, 0)) ∧ wx.heap[b19]? = some (.cells #[.int .i64 st1, .int .i64 se1, .slice Dd 0 Ed] 31 (0, 0)) ∧ (∀ W, Rd W (.slice Dc 0 Ec) 0 16 (u8s [])) ∧ (∀ W, Rd W (.slice Dd 0 Ed) 0 16 (u8s [])) ∧ HasU wx g2 gd2 gs2 Dk.new 60 (if wok n1 p 60 then splice (if wok n2 r 60 then splice (List.replicate (60 * 16) 0) (r * 16) x2 else List.replicate (60 * 16) 0) (p * 16) x1 else (if wok n2 r 60 then splice (List.replicate (60 * 16) 0) (r * 16) x2 else List.replicate (60 * 16) 0)) ∧ Only [gd2, gs2] wf wx ∧ Below w.heap.size w wx)
    case first =>
      as_aux_lemma =>
        refine wp_region_held_drew (S := (fun W => W.heap[b15]? = some (.cells (Cmd.arr (wcmd r n2 x2) (.slice A2 n2 c2)) 35 (0, 0)) ∧ W.heap[b14]? = some (.cells (Cmd.arr (wcmd p n1 x1) (.slice A1 n1 c1)) 35 (0, 0)))) (by kernel_rfl) ⟨HX25.out, HX24.out⟩ (fun hS => ?_)
        generalize hw0 : World.drew _ = wS at *
        have HA0 : Hid (Ap w wS wS g2 gd2 gs2 (List.replicate (60 * 16) 0)) := kp (by rw [← hw0]; exact ⟨HV5.out.below (Below.refl _ _).drew, Only.refl _ _, Wd.bdrew HB5.out, HB5.out.size, ⟨lt_of_heap HV5.out.u, HV5.out.d.lt, lt_of_heap HV5.out.s⟩⟩)
        have HSP : Hid (∀ W, Only [gd2, gs2] wS W → (fun W => W.heap[b15]? = some (.cells (Cmd.arr (wcmd r n2 x2) (.slice A2 n2 c2)) 35 (0, 0)) ∧ W.heap[b14]? = some (.cells (Cmd.arr (wcmd p n1 x1) (.slice A1 n1 c1)) 35 (0, 0))) W) := kp (fun W hW => ⟨(hW.block _ (lt_of_heap hS.1) (by have := HFV.out; simp; omega)).trans hS.1, (hW.block _ (lt_of_heap hS.2) (by have := HFV.out; simp; omega)).trans hS.2⟩)
        have HWO : Hid (∀ W, Only [gd2, gs2] wS W → Only [gd2, gs2] wf W) := kp (fun W h => by rw [← hw0] at h; exact ((Only.refl _ _).drew_).trans h (fun _ h => .inl h))
        have HC1 := kp (ap_do g2 gd2 gs2 2 (wcmd r n2 x2) (List.replicate (60 * 16) 0) HD2.out)
        have HC3 := kp (ap_do g2 gd2 gs2 1 (wcmd p n1 x1) (if wok n2 r 60 then splice (List.replicate (60 * 16) 0) (r * 16) x2 else List.replicate (60 * 16) 0) HD1.out)
        clear hw0
        refine wpAnyH_take (i := 0) (v := ?_) rfl (by kernel_rfl) (by kernel_rfl) (by kernel_rfl) (fun _ _ _ h => h) (Or.inl ⟨by rfl, ?_⟩) hS ?_
        rotate_left
        · intro w' hSw; go_simp; try rfl
        try simp only [Act.put,List.getElem_toArray,List.getElem_cons_succ,List.getElem_cons_zero,List.setIfInBounds_toArray,List.set_cons_zero,List.set_cons_succ]
        refine wpAnyH_take (i := 1) (v := .agg (Cmd.arr (wcmd r n2 x2) (.slice A2 n2 c2))) rfl (by kernel_rfl) (by kernel_rfl) (by kernel_rfl) (fun _ _ _ h => h) (Or.inl ⟨by rfl, fun w' hSw => ?_⟩) hS ?_
        · exact exec_row35 _ rfl b15 rfl _ _ hSw.1
        try simp only [Act.put,List.getElem_toArray,List.getElem_cons_succ,List.getElem_cons_zero,List.setIfInBounds_toArray,List.set_cons_zero,List.set_cons_succ]
        refine wpAnyH_take (i := 4) (v := ?_) rfl (by kernel_rfl) (by kernel_rfl) (by kernel_rfl) (fun _ _ _ h => h) (Or.inl ⟨by rfl, ?_⟩) hS ?_
        rotate_left
        · intro w' hSw; go_simp; try rfl
        try simp only [Act.put,List.getElem_toArray,List.getElem_cons_succ,List.getElem_cons_zero,List.setIfInBounds_toArray,List.set_cons_zero,List.set_cons_succ]
        refine wpAnyH_take (i := 5) (v := .agg (Cmd.arr (wcmd p n1 x1) (.slice A1 n1 c1))) rfl (by kernel_rfl) (by kernel_rfl) (by kernel_rfl) (fun _ _ _ h => h) (Or.inl ⟨by rfl, fun w' hSw => ?_⟩) hS ?_
        · exact exec_row35 _ rfl b14 rfl _ _ hSw.2
        try simp only [Act.put,List.getElem_toArray,List.getElem_cons_succ,List.getElem_cons_zero,List.setIfInBounds_toArray,List.set_cons_zero,List.set_cons_succ]
        clear hS
        refine rdn [2, 8, 9] (by kernel_rfl) (by simp) ?_
        refine arc rfl (fun K hK => ?_) ?_
        · as_aux_lemma =>
           go_simp
           refine (Wd.own_any (wcmd r n2 x2) (.slice A2 n2 c2) wS (H2.out.below HA0.out.b) HL2.out).mono ?_
           rintro e W1 ⟨ov1, rfl, ho, hb⟩
           have HA1 := kp (HA0.out.bel hb)
           have HV1 : Hid (Wd.Secs W1 ov1 (wcmd r n2 x2)) := kp (Wd.Own.secs ho)
           clear ho hb HA0 
           go_wp2_with (fail)
           refine hK.out _ _ (HSP.out _ HA1.out.o) (fun hS => ?_)
           clear hK K
           try simp only [Act.put,List.getElem_toArray,List.getElem_cons_succ,List.getElem_cons_zero,List.setIfInBounds_toArray,List.set_cons_zero,List.set_cons_succ]
           clear hS
           refine rdn [3, 8, 9] (by kernel_rfl) (by simp) ?_
           refine arc rfl (fun K hK => ?_) ?_
           · as_aux_lemma =>
              go_simp
              refine (HC1.out _ _ HA1.out.u HV1.out).mono ?_
              rintro e W2 ⟨dvr, rfl, ho, hu, hf⟩
              have HR2 := kp (rd0 ho)
              obtain ⟨D2, E2, rfl, -, -⟩ := Wd.own_form ho
              have HA2 := kp (HA1.out.do_ HGW2.out hu hf)
              clear ho hu hf HA1 HV1 
              go_wp2_with (fail)
              refine hK.out _ _ (HSP.out _ HA2.out.o) (fun hS => ?_)
              clear hK K
              try simp only [Act.put,List.getElem_toArray,List.getElem_cons_succ,List.getElem_cons_zero,List.setIfInBounds_toArray,List.set_cons_zero,List.set_cons_succ]
              clear hS
              refine rdn [6, 8, 9] (by kernel_rfl) (by simp) ?_
              refine arc rfl (fun K hK => ?_) ?_
              · as_aux_lemma =>
                 go_simp
                 refine (Wd.own_any (wcmd p n1 x1) (.slice A1 n1 c1) W2 (H1.out.below HA2.out.b) HL1.out).mono ?_
                 rintro e W3 ⟨ov3, rfl, ho, hb⟩
                 have HA3 := kp (HA2.out.bel hb)
                 have HV3 : Hid (Wd.Secs W3 ov3 (wcmd p n1 x1)) := kp (Wd.Own.secs ho)
                 clear ho hb HA2 
                 go_wp2_with (fail)
                 refine hK.out _ _ (HSP.out _ HA3.out.o) (fun hS => ?_)
                 clear hK K
                 try simp only [Act.put,List.getElem_toArray,List.getElem_cons_succ,List.getElem_cons_zero,List.setIfInBounds_toArray,List.set_cons_zero,List.set_cons_succ]
                 clear hS
                 refine rdn [7, 8, 9] (by kernel_rfl) (by simp) ?_
                 refine arc rfl (fun K hK => ?_) ?_
                 · as_aux_lemma =>
                    go_simp
                    refine (HC3.out _ _ HA3.out.u HV3.out).mono ?_
                    rintro e W4 ⟨dvr, rfl, ho, hu, hf⟩
                    have HR4 := kp (rd0 ho)
                    obtain ⟨D4, E4, rfl, -, -⟩ := Wd.own_form ho
                    have HA4 := kp (HA3.out.do_ HGW2.out hu hf)
                    clear ho hu hf HA3 HV3 
                    go_wp2_with (fail)
                    refine hK.out _ _ (HSP.out _ HA4.out.o) (fun hS => ?_)
                    clear hK K
                    try simp only [Act.put,List.getElem_toArray,List.getElem_cons_succ,List.getElem_cons_zero,List.setIfInBounds_toArray,List.set_cons_zero,List.set_cons_succ]
                    clear hS
                    refine rdn [8, 9] (by kernel_rfl) (by simp) ?_
                    refine arc rfl (fun K hK => ?_) ?_
                    · as_aux_lemma =>
                       have ha := fun o => HA4.out.bel (balloc W4 o)
                       go_simp
                       refine hK.out _ _ (HSP.out _ (ha _).o) (fun hS => ?_)
                       clear hK K
                       try simp only [Act.put,List.getElem_toArray,List.getElem_cons_succ,List.getElem_cons_zero,List.setIfInBounds_toArray,List.set_cons_zero,List.set_cons_succ]
                       clear hS
                       change wpAnyH _ _ _ _ _ _ _ _ (W4.alloc (.cells (rep 0 0) 31))
                       have HA5 := kp (ha (.cells (rep 0 0) 31))
                       have HP5_8 := kp (Bp.new HA4.out)
                       clear ha HA4  
                       generalize W4.heap.size = bb5 at *
                       generalize W4.alloc (.cells (rep 0 0) 31) = W5 at *
                       refine rd1 (i := 9) (by kernel_rfl) rfl (fun K hK => ?_)
                       have ha := fun o => HA5.out.bel (balloc W5 o)
                       go_simp
                       refine hK.out _ _ (HSP.out _ (ha _).o) (fun hS => ?_)
                       clear hK K
                       try simp only [Act.put,List.getElem_toArray,List.getElem_cons_succ,List.getElem_cons_zero,List.setIfInBounds_toArray,List.set_cons_zero,List.set_cons_succ]
                       clear hS
                       change wpAnyH _ _ _ _ _ _ _ _ (W5.alloc (.cells (rep 0 0) 31))
                       have HA6 := kp (ha (.cells (rep 0 0) 31))
                       have HP6_9 := kp (Bp.new HA5.out)
                       have HP6_8 := kp (HP5_8.out.bel (balloc W5 (.cells (rep 0 0) 31)))
                       have HNE := kp (Nat.ne_of_lt HP5_8.out.lt)
                       clear ha HA5 HP5_8 
                       generalize W5.heap.size = bb6 at *
                       generalize W5.alloc (.cells (rep 0 0) 31) = W6 at *
                       have X := kp (ap_end HA6.out HP6_8.out HP6_9.out HNE.out (ro st2 se2 D2 E2) (ro st1 se1 D4 E4))
                       refine rd1 (i := 10) (by kernel_rfl) rfl (fun K hK => ?_)
                       rw [if_pos (by rfl)]
                       refine wp_store_row 31 _ _ rfl bb5 (ro st2 se2 D2 E2) rfl rfl 31 _ HP6_8.out.box (by kernel_rfl) rfl (ro1 _ _ _ _) ?_
                       refine hK.out _ _ (HSP.out _ X.out.2.1.o) (fun hS => ?_)
                       clear hK K
                       try simp only [Act.put,List.getElem_toArray,List.getElem_cons_succ,List.getElem_cons_zero,List.setIfInBounds_toArray,List.set_cons_zero,List.set_cons_succ]
                       refine rd1 (i := 11) (by kernel_rfl) rfl (fun K hK => ?_)
                       rw [if_pos (by rfl)]
                       refine wp_store_row 31 _ _ rfl bb6 (ro st1 se1 D4 E4) rfl rfl 31 _ X.out.1 (by kernel_rfl) rfl (ro1 _ _ _ _) ?_
                       refine hK.out _ _ (HSP.out _ X.out.2.2.1.o) (fun hS => ?_)
                       clear hK K
                       try simp only [Act.put,List.getElem_toArray,List.getElem_cons_succ,List.getElem_cons_zero,List.setIfInBounds_toArray,List.set_cons_zero,List.set_cons_succ]
                       refine wpAnyH_done (by kernel_rfl) ?_ _
                       go_wp2_with (fail)
                       go_meet
                       exact ⟨bb5, bb6, D2, E2, D4, E4, rfl, rfl, X.out.2.2.2.1, X.out.2.2.2.2, HR2.out, HR4.out, X.out.2.2.1.u, HWO.out _ X.out.2.2.1.o, X.out.2.2.1.b⟩
                    refine arn rfl (fun K hK => ?_)
                    have ha := fun o => HA4.out.bel (balloc W4 o)
                    go_simp
                    refine hK.out _ _ (HSP.out _ (ha _).o) (fun hS => ?_)
                    clear hK K
                    try simp only [Act.put,List.getElem_toArray,List.getElem_cons_succ,List.getElem_cons_zero,List.setIfInBounds_toArray,List.set_cons_zero,List.set_cons_succ]
                    clear hS
                    change wpAnyH _ _ _ _ _ _ _ _ (W4.alloc (.cells (rep 0 0) 31))
                    have HA7 := kp (ha (.cells (rep 0 0) 31))
                    have HP7_9 := kp (Bp.new HA4.out)
                    clear ha HA4  
                    generalize W4.heap.size = bb7 at *
                    generalize W4.alloc (.cells (rep 0 0) 31) = W7 at *
                    refine rd1 (i := 8) (by kernel_rfl) rfl (fun K hK => ?_)
                    have ha := fun o => HA7.out.bel (balloc W7 o)
                    go_simp
                    refine hK.out _ _ (HSP.out _ (ha _).o) (fun hS => ?_)
                    clear hK K
                    try simp only [Act.put,List.getElem_toArray,List.getElem_cons_succ,List.getElem_cons_zero,List.setIfInBounds_toArray,List.set_cons_zero,List.set_cons_succ]
                    clear hS
                    change wpAnyH _ _ _ _ _ _ _ _ (W7.alloc (.cells (rep 0 0) 31))
                    have HA8 := kp (ha (.cells (rep 0 0) 31))
                    have HP8_8 := kp (Bp.new HA7.out)
                    have HP8_9 := kp (HP7_9.out.bel (balloc W7 (.cells (rep 0 0) 31)))
                    have HNE := kp (Nat.ne_of_lt HP7_9.out.lt)
                    clear ha HA7 HP7_9 
                    generalize W7.heap.size = bb8 at *
                    generalize W7.alloc (.cells (rep 0 0) 31) = W8 at *
                    have X := kp (ap_end HA8.out HP8_8.out HP8_9.out HNE.out.symm (ro st2 se2 D2 E2) (ro st1 se1 D4 E4))
                    refine rd1 (i := 10) (by kernel_rfl) rfl (fun K hK => ?_)
                    rw [if_pos (by rfl)]
                    refine wp_store_row 31 _ _ rfl bb8 (ro st2 se2 D2 E2) rfl rfl 31 _ HP8_8.out.box (by kernel_rfl) rfl (ro1 _ _ _ _) ?_
                    refine hK.out _ _ (HSP.out _ X.out.2.1.o) (fun hS => ?_)
                    clear hK K
                    try simp only [Act.put,List.getElem_toArray,List.getElem_cons_succ,List.getElem_cons_zero,List.setIfInBounds_toArray,List.set_cons_zero,List.set_cons_succ]
                    refine rd1 (i := 11) (by kernel_rfl) rfl (fun K hK => ?_)
                    rw [if_pos (by rfl)]
                    refine wp_store_row 31 _ _ rfl bb7 (ro st1 se1 D4 E4) rfl rfl 31 _ X.out.1 (by kernel_rfl) rfl (ro1 _ _ _ _) ?_
                    refine hK.out _ _ (HSP.out _ X.out.2.2.1.o) (fun hS => ?_)
                    clear hK K
                    try simp only [Act.put,List.getElem_toArray,List.getElem_cons_succ,List.getElem_cons_zero,List.setIfInBounds_toArray,List.set_cons_zero,List.set_cons_succ]
                    refine wpAnyH_done (by kernel_rfl) ?_ _
                    go_wp2_with (fail)
                    go_meet
                    exact ⟨bb8, bb7, D2, E2, D4, E4, rfl, rfl, X.out.2.2.2.1, X.out.2.2.2.2, HR2.out, HR4.out, X.out.2.2.1.u, HWO.out _ X.out.2.2.1.o, X.out.2.2.1.b⟩
                 refine arc rfl (fun K hK => ?_) ?_
                 · as_aux_lemma =>
                    have ha := fun o => HA3.out.bel (balloc W3 o)
                    go_simp
                    refine hK.out _ _ (HSP.out _ (ha _).o) (fun hS => ?_)
                    clear hK K
                    try simp only [Act.put,List.getElem_toArray,List.getElem_cons_succ,List.getElem_cons_zero,List.setIfInBounds_toArray,List.set_cons_zero,List.set_cons_succ]
                    clear hS
                    change wpAnyH _ _ _ _ _ _ _ _ (W3.alloc (.cells (rep 0 0) 31))
                    have HA9 := kp (ha (.cells (rep 0 0) 31))
                    have HP9_8 := kp (Bp.new HA3.out)
                    have HV9 := kp (HV3.out.below (balloc W3 (.cells (rep 0 0) 31)))
                    clear ha HA3  HV3
                    generalize W3.heap.size = bb9 at *
                    generalize W3.alloc (.cells (rep 0 0) 31) = W9 at *
                    refine rdn [7, 9] (by kernel_rfl) (by simp) ?_
                    refine arc rfl (fun K hK => ?_) ?_
                    · as_aux_lemma =>
                       go_simp
                       refine (HC3.out _ _ HA9.out.u HV9.out).mono ?_
                       rintro e W10 ⟨dvr, rfl, ho, hu, hf⟩
                       have HR10 := kp (rd0 ho)
                       obtain ⟨D10, E10, rfl, -, -⟩ := Wd.own_form ho
                       have HA10 := kp (HA9.out.do_ HGW2.out hu hf)
                       have HP10_8 := kp (HP9_8.out.do_ HA9.out.lt hf)
                       clear ho hu hf HA9 HV9 HP9_8
                       go_wp2_with (fail)
                       refine hK.out _ _ (HSP.out _ HA10.out.o) (fun hS => ?_)
                       clear hK K
                       try simp only [Act.put,List.getElem_toArray,List.getElem_cons_succ,List.getElem_cons_zero,List.setIfInBounds_toArray,List.set_cons_zero,List.set_cons_succ]
                       clear hS
                       refine rd1 (i := 9) (by kernel_rfl) rfl (fun K hK => ?_)
                       have ha := fun o => HA10.out.bel (balloc W10 o)
                       go_simp
                       refine hK.out _ _ (HSP.out _ (ha _).o) (fun hS => ?_)
                       clear hK K
                       try simp only [Act.put,List.getElem_toArray,List.getElem_cons_succ,List.getElem_cons_zero,List.setIfInBounds_toArray,List.set_cons_zero,List.set_cons_succ]
                       clear hS
                       change wpAnyH _ _ _ _ _ _ _ _ (W10.alloc (.cells (rep 0 0) 31))
                       have HA11 := kp (ha (.cells (rep 0 0) 31))
                       have HP11_9 := kp (Bp.new HA10.out)
                       have HP11_8 := kp (HP10_8.out.bel (balloc W10 (.cells (rep 0 0) 31)))
                       have HNE := kp (Nat.ne_of_lt HP10_8.out.lt)
                       clear ha HA10 HP10_8 
                       generalize W10.heap.size = bb11 at *
                       generalize W10.alloc (.cells (rep 0 0) 31) = W11 at *
                       have X := kp (ap_end HA11.out HP11_8.out HP11_9.out HNE.out (ro st2 se2 D2 E2) (ro st1 se1 D10 E10))
                       refine rd1 (i := 10) (by kernel_rfl) rfl (fun K hK => ?_)
                       rw [if_pos (by rfl)]
                       refine wp_store_row 31 _ _ rfl bb9 (ro st2 se2 D2 E2) rfl rfl 31 _ HP11_8.out.box (by kernel_rfl) rfl (ro1 _ _ _ _) ?_
                       refine hK.out _ _ (HSP.out _ X.out.2.1.o) (fun hS => ?_)
                       clear hK K
                       try simp only [Act.put,List.getElem_toArray,List.getElem_cons_succ,List.getElem_cons_zero,List.setIfInBounds_toArray,List.set_cons_zero,List.set_cons_succ]
                       refine rd1 (i := 11) (by kernel_rfl) rfl (fun K hK => ?_)
                       rw [if_pos (by rfl)]
                       refine wp_store_row 31 _ _ rfl bb11 (ro st1 se1 D10 E10) rfl rfl 31 _ X.out.1 (by kernel_rfl) rfl (ro1 _ _ _ _) ?_
                       refine hK.out _ _ (HSP.out _ X.out.2.2.1.o) (fun hS => ?_)
                       clear hK K
                       try simp only [Act.put,List.getElem_toArray,List.getElem_cons_succ,List.getElem_cons_zero,List.setIfInBounds_toArray,List.set_cons_zero,List.set_cons_succ]
                       refine wpAnyH_done (by kernel_rfl) ?_ _
                       go_wp2_with (fail)
                       go_meet
                       exact ⟨bb9, bb11, D2, E2, D10, E10, rfl, rfl, X.out.2.2.2.1, X.out.2.2.2.2, HR2.out, HR10.out, X.out.2.2.1.u, HWO.out _ X.out.2.2.1.o, X.out.2.2.1.b⟩
                    refine arn rfl (fun K hK => ?_)
                    have ha := fun o => HA9.out.bel (balloc W9 o)
                    go_simp
                    refine hK.out _ _ (HSP.out _ (ha _).o) (fun hS => ?_)
                    clear hK K
                    try simp only [Act.put,List.getElem_toArray,List.getElem_cons_succ,List.getElem_cons_zero,List.setIfInBounds_toArray,List.set_cons_zero,List.set_cons_succ]
                    clear hS
                    change wpAnyH _ _ _ _ _ _ _ _ (W9.alloc (.cells (rep 0 0) 31))
                    have HA12 := kp (ha (.cells (rep 0 0) 31))
                    have HP12_9 := kp (Bp.new HA9.out)
                    have HP12_8 := kp (HP9_8.out.bel (balloc W9 (.cells (rep 0 0) 31)))
                    have HNE := kp (Nat.ne_of_lt HP9_8.out.lt)
                    have HV12 := kp (HV9.out.below (balloc W9 (.cells (rep 0 0) 31)))
                    clear ha HA9 HP9_8 HV9
                    generalize W9.heap.size = bb12 at *
                    generalize W9.alloc (.cells (rep 0 0) 31) = W12 at *
                    refine rd1 (i := 7) (by kernel_rfl) rfl (fun K hK => ?_)
                    go_simp
                    refine (HC3.out _ _ HA12.out.u HV12.out).mono ?_
                    rintro e W13 ⟨dvr, rfl, ho, hu, hf⟩
                    have HR13 := kp (rd0 ho)
                    obtain ⟨D13, E13, rfl, -, -⟩ := Wd.own_form ho
                    have HA13 := kp (HA12.out.do_ HGW2.out hu hf)
                    have HP13_9 := kp (HP12_9.out.do_ HA12.out.lt hf)
                    have HP13_8 := kp (HP12_8.out.do_ HA12.out.lt hf)
                    clear ho hu hf HA12 HV12 HP12_9 HP12_8
                    go_wp2_with (fail)
                    refine hK.out _ _ (HSP.out _ HA13.out.o) (fun hS => ?_)
                    clear hK K
                    try simp only [Act.put,List.getElem_toArray,List.getElem_cons_succ,List.getElem_cons_zero,List.setIfInBounds_toArray,List.set_cons_zero,List.set_cons_succ]
                    clear hS
                    have X := kp (ap_end HA13.out HP13_8.out HP13_9.out HNE.out (ro st2 se2 D2 E2) (ro st1 se1 D13 E13))
                    refine rd1 (i := 10) (by kernel_rfl) rfl (fun K hK => ?_)
                    rw [if_pos (by rfl)]
                    refine wp_store_row 31 _ _ rfl bb9 (ro st2 se2 D2 E2) rfl rfl 31 _ HP13_8.out.box (by kernel_rfl) rfl (ro1 _ _ _ _) ?_
                    refine hK.out _ _ (HSP.out _ X.out.2.1.o) (fun hS => ?_)
                    clear hK K
                    try simp only [Act.put,List.getElem_toArray,List.getElem_cons_succ,List.getElem_cons_zero,List.setIfInBounds_toArray,List.set_cons_zero,List.set_cons_succ]
                    refine rd1 (i := 11) (by kernel_rfl) rfl (fun K hK => ?_)
                    rw [if_pos (by rfl)]
                    refine wp_store_row 31 _ _ rfl bb12 (ro st1 se1 D13 E13) rfl rfl 31 _ X.out.1 (by kernel_rfl) rfl (ro1 _ _ _ _) ?_
                    refine hK.out _ _ (HSP.out _ X.out.2.2.1.o) (fun hS => ?_)
                    clear hK K
                    try simp only [Act.put,List.getElem_toArray,List.getElem_cons_succ,List.getElem_cons_zero,List.setIfInBounds_toArray,List.set_cons_zero,List.set_cons_succ]
                    refine wpAnyH_done (by kernel_rfl) ?_ _
                    go_wp2_with (fail)
                    go_meet
                    exact ⟨bb9, bb12, D2, E2, D13, E13, rfl, rfl, X.out.2.2.2.1, X.out.2.2.2.2, HR2.out, HR13.out, X.out.2.2.1.u, HWO.out _ X.out.2.2.1.o, X.out.2.2.1.b⟩
                 refine arn rfl (fun K hK => ?_)
                 have ha := fun o => HA3.out.bel (balloc W3 o)
                 go_simp
                 refine hK.out _ _ (HSP.out _ (ha _).o) (fun hS => ?_)
                 clear hK K
                 try simp only [Act.put,List.getElem_toArray,List.getElem_cons_succ,List.getElem_cons_zero,List.setIfInBounds_toArray,List.set_cons_zero,List.set_cons_succ]
                 clear hS
                 change wpAnyH _ _ _ _ _ _ _ _ (W3.alloc (.cells (rep 0 0) 31))
                 have HA14 := kp (ha (.cells (rep 0 0) 31))
                 have HP14_9 := kp (Bp.new HA3.out)
                 have HV14 := kp (HV3.out.below (balloc W3 (.cells (rep 0 0) 31)))
                 clear ha HA3  HV3
                 generalize W3.heap.size = bb14 at *
                 generalize W3.alloc (.cells (rep 0 0) 31) = W14 at *
                 refine rdn [7, 8] (by kernel_rfl) (by simp) ?_
                 refine arc rfl (fun K hK => ?_) ?_
                 · as_aux_lemma =>
                    go_simp
                    refine (HC3.out _ _ HA14.out.u HV14.out).mono ?_
                    rintro e W15 ⟨dvr, rfl, ho, hu, hf⟩
                    have HR15 := kp (rd0 ho)
                    obtain ⟨D15, E15, rfl, -, -⟩ := Wd.own_form ho
                    have HA15 := kp (HA14.out.do_ HGW2.out hu hf)
                    have HP15_9 := kp (HP14_9.out.do_ HA14.out.lt hf)
                    clear ho hu hf HA14 HV14 HP14_9
                    go_wp2_with (fail)
                    refine hK.out _ _ (HSP.out _ HA15.out.o) (fun hS => ?_)
                    clear hK K
                    try simp only [Act.put,List.getElem_toArray,List.getElem_cons_succ,List.getElem_cons_zero,List.setIfInBounds_toArray,List.set_cons_zero,List.set_cons_succ]
                    clear hS
                    refine rd1 (i := 8) (by kernel_rfl) rfl (fun K hK => ?_)
                    have ha := fun o => HA15.out.bel (balloc W15 o)
                    go_simp
                    refine hK.out _ _ (HSP.out _ (ha _).o) (fun hS => ?_)
                    clear hK K
                    try simp only [Act.put,List.getElem_toArray,List.getElem_cons_succ,List.getElem_cons_zero,List.setIfInBounds_toArray,List.set_cons_zero,List.set_cons_succ]
                    clear hS
                    change wpAnyH _ _ _ _ _ _ _ _ (W15.alloc (.cells (rep 0 0) 31))
                    have HA16 := kp (ha (.cells (rep 0 0) 31))
                    have HP16_8 := kp (Bp.new HA15.out)
                    have HP16_9 := kp (HP15_9.out.bel (balloc W15 (.cells (rep 0 0) 31)))
                    have HNE := kp (Nat.ne_of_lt HP15_9.out.lt)
                    clear ha HA15 HP15_9 
                    generalize W15.heap.size = bb16 at *
                    generalize W15.alloc (.cells (rep 0 0) 31) = W16 at *
                    have X := kp (ap_end HA16.out HP16_8.out HP16_9.out HNE.out.symm (ro st2 se2 D2 E2) (ro st1 se1 D15 E15))
                    refine rd1 (i := 10) (by kernel_rfl) rfl (fun K hK => ?_)
                    rw [if_pos (by rfl)]
                    refine wp_store_row 31 _ _ rfl bb16 (ro st2 se2 D2 E2) rfl rfl 31 _ HP16_8.out.box (by kernel_rfl) rfl (ro1 _ _ _ _) ?_
                    refine hK.out _ _ (HSP.out _ X.out.2.1.o) (fun hS => ?_)
                    clear hK K
                    try simp only [Act.put,List.getElem_toArray,List.getElem_cons_succ,List.getElem_cons_zero,List.setIfInBounds_toArray,List.set_cons_zero,List.set_cons_succ]
                    refine rd1 (i := 11) (by kernel_rfl) rfl (fun K hK => ?_)
                    rw [if_pos (by rfl)]
                    refine wp_store_row 31 _ _ rfl bb14 (ro st1 se1 D15 E15) rfl rfl 31 _ X.out.1 (by kernel_rfl) rfl (ro1 _ _ _ _) ?_
                    refine hK.out _ _ (HSP.out _ X.out.2.2.1.o) (fun hS => ?_)
                    clear hK K
                    try simp only [Act.put,List.getElem_toArray,List.getElem_cons_succ,List.getElem_cons_zero,List.setIfInBounds_toArray,List.set_cons_zero,List.set_cons_succ]
                    refine wpAnyH_done (by kernel_rfl) ?_ _
                    go_wp2_with (fail)
                    go_meet
                    exact ⟨bb16, bb14, D2, E2, D15, E15, rfl, rfl, X.out.2.2.2.1, X.out.2.2.2.2, HR2.out, HR15.out, X.out.2.2.1.u, HWO.out _ X.out.2.2.1.o, X.out.2.2.1.b⟩
                 refine arn rfl (fun K hK => ?_)
                 have ha := fun o => HA14.out.bel (balloc W14 o)
                 go_simp
                 refine hK.out _ _ (HSP.out _ (ha _).o) (fun hS => ?_)
                 clear hK K
                 try simp only [Act.put,List.getElem_toArray,List.getElem_cons_succ,List.getElem_cons_zero,List.setIfInBounds_toArray,List.set_cons_zero,List.set_cons_succ]
                 clear hS
                 change wpAnyH _ _ _ _ _ _ _ _ (W14.alloc (.cells (rep 0 0) 31))
                 have HA17 := kp (ha (.cells (rep 0 0) 31))
                 have HP17_8 := kp (Bp.new HA14.out)
                 have HP17_9 := kp (HP14_9.out.bel (balloc W14 (.cells (rep 0 0) 31)))
                 have HNE := kp (Nat.ne_of_lt HP14_9.out.lt)
                 have HV17 := kp (HV14.out.below (balloc W14 (.cells (rep 0 0) 31)))
                 clear ha HA14 HP14_9 HV14
                 generalize W14.heap.size = bb17 at *
                 generalize W14.alloc (.cells (rep 0 0) 31) = W17 at *
                 refine rd1 (i := 7) (by kernel_rfl) rfl (fun K hK => ?_)
                 go_simp
                 refine (HC3.out _ _ HA17.out.u HV17.out).mono ?_
                 rintro e W18 ⟨dvr, rfl, ho, hu, hf⟩
                 have HR18 := kp (rd0 ho)
                 obtain ⟨D18, E18, rfl, -, -⟩ := Wd.own_form ho
                 have HA18 := kp (HA17.out.do_ HGW2.out hu hf)
                 have HP18_8 := kp (HP17_8.out.do_ HA17.out.lt hf)
                 have HP18_9 := kp (HP17_9.out.do_ HA17.out.lt hf)
                 clear ho hu hf HA17 HV17 HP17_8 HP17_9
                 go_wp2_with (fail)
                 refine hK.out _ _ (HSP.out _ HA18.out.o) (fun hS => ?_)
                 clear hK K
                 try simp only [Act.put,List.getElem_toArray,List.getElem_cons_succ,List.getElem_cons_zero,List.setIfInBounds_toArray,List.set_cons_zero,List.set_cons_succ]
                 clear hS
                 have X := kp (ap_end HA18.out HP18_8.out HP18_9.out HNE.out.symm (ro st2 se2 D2 E2) (ro st1 se1 D18 E18))
                 refine rd1 (i := 10) (by kernel_rfl) rfl (fun K hK => ?_)
                 rw [if_pos (by rfl)]
                 refine wp_store_row 31 _ _ rfl bb17 (ro st2 se2 D2 E2) rfl rfl 31 _ HP18_8.out.box (by kernel_rfl) rfl (ro1 _ _ _ _) ?_
                 refine hK.out _ _ (HSP.out _ X.out.2.1.o) (fun hS => ?_)
                 clear hK K
                 try simp only [Act.put,List.getElem_toArray,List.getElem_cons_succ,List.getElem_cons_zero,List.setIfInBounds_toArray,List.set_cons_zero,List.set_cons_succ]
                 refine rd1 (i := 11) (by kernel_rfl) rfl (fun K hK => ?_)
                 rw [if_pos (by rfl)]
                 refine wp_store_row 31 _ _ rfl bb14 (ro st1 se1 D18 E18) rfl rfl 31 _ X.out.1 (by kernel_rfl) rfl (ro1 _ _ _ _) ?_
                 refine hK.out _ _ (HSP.out _ X.out.2.2.1.o) (fun hS => ?_)
                 clear hK K
                 try simp only [Act.put,List.getElem_toArray,List.getElem_cons_succ,List.getElem_cons_zero,List.setIfInBounds_toArray,List.set_cons_zero,List.set_cons_succ]
                 refine wpAnyH_done (by kernel_rfl) ?_ _
                 go_wp2_with (fail)
                 go_meet
                 exact ⟨bb17, bb14, D2, E2, D18, E18, rfl, rfl, X.out.2.2.2.1, X.out.2.2.2.2, HR2.out, HR18.out, X.out.2.2.1.u, HWO.out _ X.out.2.2.1.o, X.out.2.2.1.b⟩
              refine arc rfl (fun K hK => ?_) ?_
              · as_aux_lemma =>
                 have ha := fun o => HA2.out.bel (balloc W2 o)
                 go_simp
                 refine hK.out _ _ (HSP.out _ (ha _).o) (fun hS => ?_)
                 clear hK K
                 try simp only [Act.put,List.getElem_toArray,List.getElem_cons_succ,List.getElem_cons_zero,List.setIfInBounds_toArray,List.set_cons_zero,List.set_cons_succ]
                 clear hS
                 change wpAnyH _ _ _ _ _ _ _ _ (W2.alloc (.cells (rep 0 0) 31))
                 have HA19 := kp (ha (.cells (rep 0 0) 31))
                 have HP19_8 := kp (Bp.new HA2.out)
                 clear ha HA2  
                 generalize W2.heap.size = bb19 at *
                 generalize W2.alloc (.cells (rep 0 0) 31) = W19 at *
                 refine rdn [6, 9] (by kernel_rfl) (by simp) ?_
                 refine arc rfl (fun K hK => ?_) ?_
                 · as_aux_lemma =>
                    go_simp
                    refine (Wd.own_any (wcmd p n1 x1) (.slice A1 n1 c1) W19 (H1.out.below HA19.out.b) HL1.out).mono ?_
                    rintro e W20 ⟨ov20, rfl, ho, hb⟩
                    have HA20 := kp (HA19.out.bel hb)
                    have HV20 : Hid (Wd.Secs W20 ov20 (wcmd p n1 x1)) := kp (Wd.Own.secs ho)
                    have HP20_8 := kp (HP19_8.out.bel hb)
                    clear ho hb HA19 HP19_8
                    go_wp2_with (fail)
                    refine hK.out _ _ (HSP.out _ HA20.out.o) (fun hS => ?_)
                    clear hK K
                    try simp only [Act.put,List.getElem_toArray,List.getElem_cons_succ,List.getElem_cons_zero,List.setIfInBounds_toArray,List.set_cons_zero,List.set_cons_succ]
                    clear hS
                    refine rdn [7, 9] (by kernel_rfl) (by simp) ?_
                    refine arc rfl (fun K hK => ?_) ?_
                    · as_aux_lemma =>
                       go_simp
                       refine (HC3.out _ _ HA20.out.u HV20.out).mono ?_
                       rintro e W21 ⟨dvr, rfl, ho, hu, hf⟩
                       have HR21 := kp (rd0 ho)
                       obtain ⟨D21, E21, rfl, -, -⟩ := Wd.own_form ho
                       have HA21 := kp (HA20.out.do_ HGW2.out hu hf)
                       have HP21_8 := kp (HP20_8.out.do_ HA20.out.lt hf)
                       clear ho hu hf HA20 HV20 HP20_8
                       go_wp2_with (fail)
                       refine hK.out _ _ (HSP.out _ HA21.out.o) (fun hS => ?_)
                       clear hK K
                       try simp only [Act.put,List.getElem_toArray,List.getElem_cons_succ,List.getElem_cons_zero,List.setIfInBounds_toArray,List.set_cons_zero,List.set_cons_succ]
                       clear hS
                       refine rd1 (i := 9) (by kernel_rfl) rfl (fun K hK => ?_)
                       have ha := fun o => HA21.out.bel (balloc W21 o)
                       go_simp
                       refine hK.out _ _ (HSP.out _ (ha _).o) (fun hS => ?_)
                       clear hK K
                       try simp only [Act.put,List.getElem_toArray,List.getElem_cons_succ,List.getElem_cons_zero,List.setIfInBounds_toArray,List.set_cons_zero,List.set_cons_succ]
                       clear hS
                       change wpAnyH _ _ _ _ _ _ _ _ (W21.alloc (.cells (rep 0 0) 31))
                       have HA22 := kp (ha (.cells (rep 0 0) 31))
                       have HP22_9 := kp (Bp.new HA21.out)
                       have HP22_8 := kp (HP21_8.out.bel (balloc W21 (.cells (rep 0 0) 31)))
                       have HNE := kp (Nat.ne_of_lt HP21_8.out.lt)
                       clear ha HA21 HP21_8 
                       generalize W21.heap.size = bb22 at *
                       generalize W21.alloc (.cells (rep 0 0) 31) = W22 at *
                       have X := kp (ap_end HA22.out HP22_8.out HP22_9.out HNE.out (ro st2 se2 D2 E2) (ro st1 se1 D21 E21))
                       refine rd1 (i := 10) (by kernel_rfl) rfl (fun K hK => ?_)
                       rw [if_pos (by rfl)]
                       refine wp_store_row 31 _ _ rfl bb19 (ro st2 se2 D2 E2) rfl rfl 31 _ HP22_8.out.box (by kernel_rfl) rfl (ro1 _ _ _ _) ?_
                       refine hK.out _ _ (HSP.out _ X.out.2.1.o) (fun hS => ?_)
                       clear hK K
                       try simp only [Act.put,List.getElem_toArray,List.getElem_cons_succ,List.getElem_cons_zero,List.setIfInBounds_toArray,List.set_cons_zero,List.set_cons_succ]
                       refine rd1 (i := 11) (by kernel_rfl) rfl (fun K hK => ?_)
                       rw [if_pos (by rfl)]
                       refine wp_store_row 31 _ _ rfl bb22 (ro st1 se1 D21 E21) rfl rfl 31 _ X.out.1 (by kernel_rfl) rfl (ro1 _ _ _ _) ?_
                       refine hK.out _ _ (HSP.out _ X.out.2.2.1.o) (fun hS => ?_)
                       clear hK K
                       try simp only [Act.put,List.getElem_toArray,List.getElem_cons_succ,List.getElem_cons_zero,List.setIfInBounds_toArray,List.set_cons_zero,List.set_cons_succ]
                       refine wpAnyH_done (by kernel_rfl) ?_ _
                       go_wp2_with (fail)
                       go_meet
                       exact ⟨bb19, bb22, D2, E2, D21, E21, rfl, rfl, X.out.2.2.2.1, X.out.2.2.2.2, HR2.out, HR21.out, X.out.2.2.1.u, HWO.out _ X.out.2.2.1.o, X.out.2.2.1.b⟩
                    refine arn rfl (fun K hK => ?_)
                    have ha := fun o => HA20.out.bel (balloc W20 o)
                    go_simp
                    refine hK.out _ _ (HSP.out _ (ha _).o) (fun hS => ?_)
                    clear hK K
                    try simp only [Act.put,List.getElem_toArray,List.getElem_cons_succ,List.getElem_cons_zero,List.setIfInBounds_toArray,List.set_cons_zero,List.set_cons_succ]
                    clear hS
                    change wpAnyH _ _ _ _ _ _ _ _ (W20.alloc (.cells (rep 0 0) 31))
                    have HA23 := kp (ha (.cells (rep 0 0) 31))
                    have HP23_9 := kp (Bp.new HA20.out)
                    have HP23_8 := kp (HP20_8.out.bel (balloc W20 (.cells (rep 0 0) 31)))
                    have HNE := kp (Nat.ne_of_lt HP20_8.out.lt)
                    have HV23 := kp (HV20.out.below (balloc W20 (.cells (rep 0 0) 31)))
                    clear ha HA20 HP20_8 HV20
                    generalize W20.heap.size = bb23 at *
                    generalize W20.alloc (.cells (rep 0 0) 31) = W23 at *
                    refine rd1 (i := 7) (by kernel_rfl) rfl (fun K hK => ?_)
                    go_simp
                    refine (HC3.out _ _ HA23.out.u HV23.out).mono ?_
                    rintro e W24 ⟨dvr, rfl, ho, hu, hf⟩
                    have HR24 := kp (rd0 ho)
                    obtain ⟨D24, E24, rfl, -, -⟩ := Wd.own_form ho
                    have HA24 := kp (HA23.out.do_ HGW2.out hu hf)
                    have HP24_9 := kp (HP23_9.out.do_ HA23.out.lt hf)
                    have HP24_8 := kp (HP23_8.out.do_ HA23.out.lt hf)
                    clear ho hu hf HA23 HV23 HP23_9 HP23_8
                    go_wp2_with (fail)
                    refine hK.out _ _ (HSP.out _ HA24.out.o) (fun hS => ?_)
                    clear hK K
                    try simp only [Act.put,List.getElem_toArray,List.getElem_cons_succ,List.getElem_cons_zero,List.setIfInBounds_toArray,List.set_cons_zero,List.set_cons_succ]
                    clear hS
                    have X := kp (ap_end HA24.out HP24_8.out HP24_9.out HNE.out (ro st2 se2 D2 E2) (ro st1 se1 D24 E24))
                    refine rd1 (i := 10) (by kernel_rfl) rfl (fun K hK => ?_)
                    rw [if_pos (by rfl)]
                    refine wp_store_row 31 _ _ rfl bb19 (ro st2 se2 D2 E2) rfl rfl 31 _ HP24_8.out.box (by kernel_rfl) rfl (ro1 _ _ _ _) ?_
                    refine hK.out _ _ (HSP.out _ X.out.2.1.o) (fun hS => ?_)
                    clear hK K
                    try simp only [Act.put,List.getElem_toArray,List.getElem_cons_succ,List.getElem_cons_zero,List.setIfInBounds_toArray,List.set_cons_zero,List.set_cons_succ]
                    refine rd1 (i := 11) (by kernel_rfl) rfl (fun K hK => ?_)
                    rw [if_pos (by rfl)]
                    refine wp_store_row 31 _ _ rfl bb23 (ro st1 se1 D24 E24) rfl rfl 31 _ X.out.1 (by kernel_rfl) rfl (ro1 _ _ _ _) ?_
                    refine hK.out _ _ (HSP.out _ X.out.2.2.1.o) (fun hS => ?_)
                    clear hK K
                    try simp only [Act.put,List.getElem_toArray,List.getElem_cons_succ,List.getElem_cons_zero,List.setIfInBounds_toArray,List.set_cons_zero,List.set_cons_succ]
                    refine wpAnyH_done (by kernel_rfl) ?_ _
                    go_wp2_with (fail)
                    go_meet
                    exact ⟨bb19, bb23, D2, E2, D24, E24, rfl, rfl, X.out.2.2.2.1, X.out.2.2.2.2, HR2.out, HR24.out, X.out.2.2.1.u, HWO.out _ X.out.2.2.1.o, X.out.2.2.1.b⟩
                 refine arn rfl (fun K hK => ?_)
                 have ha := fun o => HA19.out.bel (balloc W19 o)
                 go_simp
                 refine hK.out _ _ (HSP.out _ (ha _).o) (fun hS => ?_)
                 clear hK K
                 try simp only [Act.put,List.getElem_toArray,List.getElem_cons_succ,List.getElem_cons_zero,List.setIfInBounds_toArray,List.set_cons_zero,List.set_cons_succ]
                 clear hS
                 change wpAnyH _ _ _ _ _ _ _ _ (W19.alloc (.cells (rep 0 0) 31))
                 have HA25 := kp (ha (.cells (rep 0 0) 31))
                 have HP25_9 := kp (Bp.new HA19.out)
                 have HP25_8 := kp (HP19_8.out.bel (balloc W19 (.cells (rep 0 0) 31)))
                 have HNE := kp (Nat.ne_of_lt HP19_8.out.lt)
                 clear ha HA19 HP19_8 
                 generalize W19.heap.size = bb25 at *
                 generalize W19.alloc (.cells (rep 0 0) 31) = W25 at *
                 refine rd1 (i := 6) (by kernel_rfl) rfl (fun K hK => ?_)
                 go_simp
                 refine (Wd.own_any (wcmd p n1 x1) (.slice A1 n1 c1) W25 (H1.out.below HA25.out.b) HL1.out).mono ?_
                 rintro e W26 ⟨ov26, rfl, ho, hb⟩
                 have HA26 := kp (HA25.out.bel hb)
                 have HV26 : Hid (Wd.Secs W26 ov26 (wcmd p n1 x1)) := kp (Wd.Own.secs ho)
                 have HP26_9 := kp (HP25_9.out.bel hb)
                 have HP26_8 := kp (HP25_8.out.bel hb)
                 clear ho hb HA25 HP25_9 HP25_8
                 go_wp2_with (fail)
                 refine hK.out _ _ (HSP.out _ HA26.out.o) (fun hS => ?_)
                 clear hK K
                 try simp only [Act.put,List.getElem_toArray,List.getElem_cons_succ,List.getElem_cons_zero,List.setIfInBounds_toArray,List.set_cons_zero,List.set_cons_succ]
                 clear hS
                 refine rd1 (i := 7) (by kernel_rfl) rfl (fun K hK => ?_)
                 go_simp
                 refine (HC3.out _ _ HA26.out.u HV26.out).mono ?_
                 rintro e W27 ⟨dvr, rfl, ho, hu, hf⟩
                 have HR27 := kp (rd0 ho)
                 obtain ⟨D27, E27, rfl, -, -⟩ := Wd.own_form ho
                 have HA27 := kp (HA26.out.do_ HGW2.out hu hf)
                 have HP27_9 := kp (HP26_9.out.do_ HA26.out.lt hf)
                 have HP27_8 := kp (HP26_8.out.do_ HA26.out.lt hf)
                 clear ho hu hf HA26 HV26 HP26_9 HP26_8
                 go_wp2_with (fail)
                 refine hK.out _ _ (HSP.out _ HA27.out.o) (fun hS => ?_)
                 clear hK K
                 try simp only [Act.put,List.getElem_toArray,List.getElem_cons_succ,List.getElem_cons_zero,List.setIfInBounds_toArray,List.set_cons_zero,List.set_cons_succ]
                 clear hS
                 have X := kp (ap_end HA27.out HP27_8.out HP27_9.out HNE.out (ro st2 se2 D2 E2) (ro st1 se1 D27 E27))
                 refine rd1 (i := 10) (by kernel_rfl) rfl (fun K hK => ?_)
                 rw [if_pos (by rfl)]
                 refine wp_store_row 31 _ _ rfl bb19 (ro st2 se2 D2 E2) rfl rfl 31 _ HP27_8.out.box (by kernel_rfl) rfl (ro1 _ _ _ _) ?_
                 refine hK.out _ _ (HSP.out _ X.out.2.1.o) (fun hS => ?_)
                 clear hK K
                 try simp only [Act.put,List.getElem_toArray,List.getElem_cons_succ,List.getElem_cons_zero,List.setIfInBounds_toArray,List.set_cons_zero,List.set_cons_succ]
                 refine rd1 (i := 11) (by kernel_rfl) rfl (fun K hK => ?_)
                 rw [if_pos (by rfl)]
                 refine wp_store_row 31 _ _ rfl bb25 (ro st1 se1 D27 E27) rfl rfl 31 _ X.out.1 (by kernel_rfl) rfl (ro1 _ _ _ _) ?_
                 refine hK.out _ _ (HSP.out _ X.out.2.2.1.o) (fun hS => ?_)
                 clear hK K
                 try simp only [Act.put,List.getElem_toArray,List.getElem_cons_succ,List.getElem_cons_zero,List.setIfInBounds_toArray,List.set_cons_zero,List.set_cons_succ]
                 refine wpAnyH_done (by kernel_rfl) ?_ _
                 go_wp2_with (fail)
                 go_meet
                 exact ⟨bb19, bb25, D2, E2, D27, E27, rfl, rfl, X.out.2.2.2.1, X.out.2.2.2.2, HR2.out, HR27.out, X.out.2.2.1.u, HWO.out _ X.out.2.2.1.o, X.out.2.2.1.b⟩
              refine arn rfl (fun K hK => ?_)
              have ha := fun o => HA2.out.bel (balloc W2 o)
              go_simp
              refine hK.out _ _ (HSP.out _ (ha _).o) (fun hS => ?_)
              clear hK K
              try simp only [Act.put,List.getElem_toArray,List.getElem_cons_succ,List.getElem_cons_zero,List.setIfInBounds_toArray,List.set_cons_zero,List.set_cons_succ]
              clear hS
              change wpAnyH _ _ _ _ _ _ _ _ (W2.alloc (.cells (rep 0 0) 31))
              have HA28 := kp (ha (.cells (rep 0 0) 31))
              have HP28_9 := kp (Bp.new HA2.out)
              clear ha HA2  
              generalize W2.heap.size = bb28 at *
              generalize W2.alloc (.cells (rep 0 0) 31) = W28 at *
              refine rdn [6, 8] (by kernel_rfl) (by simp) ?_
              refine arc rfl (fun K hK => ?_) ?_
              · as_aux_lemma =>
                 go_simp
                 refine (Wd.own_any (wcmd p n1 x1) (.slice A1 n1 c1) W28 (H1.out.below HA28.out.b) HL1.out).mono ?_
                 rintro e W29 ⟨ov29, rfl, ho, hb⟩
                 have HA29 := kp (HA28.out.bel hb)
                 have HV29 : Hid (Wd.Secs W29 ov29 (wcmd p n1 x1)) := kp (Wd.Own.secs ho)
                 have HP29_9 := kp (HP28_9.out.bel hb)
                 clear ho hb HA28 HP28_9
                 go_wp2_with (fail)
                 refine hK.out _ _ (HSP.out _ HA29.out.o) (fun hS => ?_)
                 clear hK K
                 try simp only [Act.put,List.getElem_toArray,List.getElem_cons_succ,List.getElem_cons_zero,List.setIfInBounds_toArray,List.set_cons_zero,List.set_cons_succ]
                 clear hS
                 refine rdn [7, 8] (by kernel_rfl) (by simp) ?_
                 refine arc rfl (fun K hK => ?_) ?_
                 · as_aux_lemma =>
                    go_simp
                    refine (HC3.out _ _ HA29.out.u HV29.out).mono ?_
                    rintro e W30 ⟨dvr, rfl, ho, hu, hf⟩
                    have HR30 := kp (rd0 ho)
                    obtain ⟨D30, E30, rfl, -, -⟩ := Wd.own_form ho
                    have HA30 := kp (HA29.out.do_ HGW2.out hu hf)
                    have HP30_9 := kp (HP29_9.out.do_ HA29.out.lt hf)
                    clear ho hu hf HA29 HV29 HP29_9
                    go_wp2_with (fail)
                    refine hK.out _ _ (HSP.out _ HA30.out.o) (fun hS => ?_)
                    clear hK K
                    try simp only [Act.put,List.getElem_toArray,List.getElem_cons_succ,List.getElem_cons_zero,List.setIfInBounds_toArray,List.set_cons_zero,List.set_cons_succ]
                    clear hS
                    refine rd1 (i := 8) (by kernel_rfl) rfl (fun K hK => ?_)
                    have ha := fun o => HA30.out.bel (balloc W30 o)
                    go_simp
                    refine hK.out _ _ (HSP.out _ (ha _).o) (fun hS => ?_)
                    clear hK K
                    try simp only [Act.put,List.getElem_toArray,List.getElem_cons_succ,List.getElem_cons_zero,List.setIfInBounds_toArray,List.set_cons_zero,List.set_cons_succ]
                    clear hS
                    change wpAnyH _ _ _ _ _ _ _ _ (W30.alloc (.cells (rep 0 0) 31))
                    have HA31 := kp (ha (.cells (rep 0 0) 31))
                    have HP31_8 := kp (Bp.new HA30.out)
                    have HP31_9 := kp (HP30_9.out.bel (balloc W30 (.cells (rep 0 0) 31)))
                    have HNE := kp (Nat.ne_of_lt HP30_9.out.lt)
                    clear ha HA30 HP30_9 
                    generalize W30.heap.size = bb31 at *
                    generalize W30.alloc (.cells (rep 0 0) 31) = W31 at *
                    have X := kp (ap_end HA31.out HP31_8.out HP31_9.out HNE.out.symm (ro st2 se2 D2 E2) (ro st1 se1 D30 E30))
                    refine rd1 (i := 10) (by kernel_rfl) rfl (fun K hK => ?_)
                    rw [if_pos (by rfl)]
                    refine wp_store_row 31 _ _ rfl bb31 (ro st2 se2 D2 E2) rfl rfl 31 _ HP31_8.out.box (by kernel_rfl) rfl (ro1 _ _ _ _) ?_
                    refine hK.out _ _ (HSP.out _ X.out.2.1.o) (fun hS => ?_)
                    clear hK K
                    try simp only [Act.put,List.getElem_toArray,List.getElem_cons_succ,List.getElem_cons_zero,List.setIfInBounds_toArray,List.set_cons_zero,List.set_cons_succ]
                    refine rd1 (i := 11) (by kernel_rfl) rfl (fun K hK => ?_)
                    rw [if_pos (by rfl)]
                    refine wp_store_row 31 _ _ rfl bb28 (ro st1 se1 D30 E30) rfl rfl 31 _ X.out.1 (by kernel_rfl) rfl (ro1 _ _ _ _) ?_
                    refine hK.out _ _ (HSP.out _ X.out.2.2.1.o) (fun hS => ?_)
                    clear hK K
                    try simp only [Act.put,List.getElem_toArray,List.getElem_cons_succ,List.getElem_cons_zero,List.setIfInBounds_toArray,List.set_cons_zero,List.set_cons_succ]
                    refine wpAnyH_done (by kernel_rfl) ?_ _
                    go_wp2_with (fail)
                    go_meet
                    exact ⟨bb31, bb28, D2, E2, D30, E30, rfl, rfl, X.out.2.2.2.1, X.out.2.2.2.2, HR2.out, HR30.out, X.out.2.2.1.u, HWO.out _ X.out.2.2.1.o, X.out.2.2.1.b⟩
                 refine arn rfl (fun K hK => ?_)
                 have ha := fun o => HA29.out.bel (balloc W29 o)
                 go_simp
                 refine hK.out _ _ (HSP.out _ (ha _).o) (fun hS => ?_)
                 clear hK K
                 try simp only [Act.put,List.getElem_toArray,List.getElem_cons_succ,List.getElem_cons_zero,List.setIfInBounds_toArray,List.set_cons_zero,List.set_cons_succ]
                 clear hS
                 change wpAnyH _ _ _ _ _ _ _ _ (W29.alloc (.cells (rep 0 0) 31))
                 have HA32 := kp (ha (.cells (rep 0 0) 31))
                 have HP32_8 := kp (Bp.new HA29.out)
                 have HP32_9 := kp (HP29_9.out.bel (balloc W29 (.cells (rep 0 0) 31)))
                 have HNE := kp (Nat.ne_of_lt HP29_9.out.lt)
                 have HV32 := kp (HV29.out.below (balloc W29 (.cells (rep 0 0) 31)))
                 clear ha HA29 HP29_9 HV29
                 generalize W29.heap.size = bb32 at *
                 generalize W29.alloc (.cells (rep 0 0) 31) = W32 at *
                 refine rd1 (i := 7) (by kernel_rfl) rfl (fun K hK => ?_)
                 go_simp
                 refine (HC3.out _ _ HA32.out.u HV32.out).mono ?_
                 rintro e W33 ⟨dvr, rfl, ho, hu, hf⟩
                 have HR33 := kp (rd0 ho)
                 obtain ⟨D33, E33, rfl, -, -⟩ := Wd.own_form ho
                 have HA33 := kp (HA32.out.do_ HGW2.out hu hf)
                 have HP33_8 := kp (HP32_8.out.do_ HA32.out.lt hf)
                 have HP33_9 := kp (HP32_9.out.do_ HA32.out.lt hf)
                 clear ho hu hf HA32 HV32 HP32_8 HP32_9
                 go_wp2_with (fail)
                 refine hK.out _ _ (HSP.out _ HA33.out.o) (fun hS => ?_)
                 clear hK K
                 try simp only [Act.put,List.getElem_toArray,List.getElem_cons_succ,List.getElem_cons_zero,List.setIfInBounds_toArray,List.set_cons_zero,List.set_cons_succ]
                 clear hS
                 have X := kp (ap_end HA33.out HP33_8.out HP33_9.out HNE.out.symm (ro st2 se2 D2 E2) (ro st1 se1 D33 E33))
                 refine rd1 (i := 10) (by kernel_rfl) rfl (fun K hK => ?_)
                 rw [if_pos (by rfl)]
                 refine wp_store_row 31 _ _ rfl bb32 (ro st2 se2 D2 E2) rfl rfl 31 _ HP33_8.out.box (by kernel_rfl) rfl (ro1 _ _ _ _) ?_
                 refine hK.out _ _ (HSP.out _ X.out.2.1.o) (fun hS => ?_)
                 clear hK K
                 try simp only [Act.put,List.getElem_toArray,List.getElem_cons_succ,List.getElem_cons_zero,List.setIfInBounds_toArray,List.set_cons_zero,List.set_cons_succ]
                 refine rd1 (i := 11) (by kernel_rfl) rfl (fun K hK => ?_)
                 rw [if_pos (by rfl)]
                 refine wp_store_row 31 _ _ rfl bb28 (ro st1 se1 D33 E33) rfl rfl 31 _ X.out.1 (by kernel_rfl) rfl (ro1 _ _ _ _) ?_
                 refine hK.out _ _ (HSP.out _ X.out.2.2.1.o) (fun hS => ?_)
                 clear hK K
                 try simp only [Act.put,List.getElem_toArray,List.getElem_cons_succ,List.getElem_cons_zero,List.setIfInBounds_toArray,List.set_cons_zero,List.set_cons_succ]
                 refine wpAnyH_done (by kernel_rfl) ?_ _
                 go_wp2_with (fail)
                 go_meet
                 exact ⟨bb32, bb28, D2, E2, D33, E33, rfl, rfl, X.out.2.2.2.1, X.out.2.2.2.2, HR2.out, HR33.out, X.out.2.2.1.u, HWO.out _ X.out.2.2.1.o, X.out.2.2.1.b⟩
              refine arn rfl (fun K hK => ?_)
              have ha := fun o => HA28.out.bel (balloc W28 o)
              go_simp
              refine hK.out _ _ (HSP.out _ (ha _).o) (fun hS => ?_)
              clear hK K
              try simp only [Act.put,List.getElem_toArray,List.getElem_cons_succ,List.getElem_cons_zero,List.setIfInBounds_toArray,List.set_cons_zero,List.set_cons_succ]
              clear hS
              change wpAnyH _ _ _ _ _ _ _ _ (W28.alloc (.cells (rep 0 0) 31))
              have HA34 := kp (ha (.cells (rep 0 0) 31))
              have HP34_8 := kp (Bp.new HA28.out)
              have HP34_9 := kp (HP28_9.out.bel (balloc W28 (.cells (rep 0 0) 31)))
              have HNE := kp (Nat.ne_of_lt HP28_9.out.lt)
              clear ha HA28 HP28_9 
              generalize W28.heap.size = bb34 at *
              generalize W28.alloc (.cells (rep 0 0) 31) = W34 at *
              refine rd1 (i := 6) (by kernel_rfl) rfl (fun K hK => ?_)
              go_simp
              refine (Wd.own_any (wcmd p n1 x1) (.slice A1 n1 c1) W34 (H1.out.below HA34.out.b) HL1.out).mono ?_
              rintro e W35 ⟨ov35, rfl, ho, hb⟩
              have HA35 := kp (HA34.out.bel hb)
              have HV35 : Hid (Wd.Secs W35 ov35 (wcmd p n1 x1)) := kp (Wd.Own.secs ho)
              have HP35_8 := kp (HP34_8.out.bel hb)
              have HP35_9 := kp (HP34_9.out.bel hb)
              clear ho hb HA34 HP34_8 HP34_9
              go_wp2_with (fail)
              refine hK.out _ _ (HSP.out _ HA35.out.o) (fun hS => ?_)
              clear hK K
              try simp only [Act.put,List.getElem_toArray,List.getElem_cons_succ,List.getElem_cons_zero,List.setIfInBounds_toArray,List.set_cons_zero,List.set_cons_succ]
              clear hS
              refine rd1 (i := 7) (by kernel_rfl) rfl (fun K hK => ?_)
              go_simp
              refine (HC3.out _ _ HA35.out.u HV35.out).mono ?_
              rintro e W36 ⟨dvr, rfl, ho, hu, hf⟩
              have HR36 := kp (rd0 ho)
              obtain ⟨D36, E36, rfl, -, -⟩ := Wd.own_form ho
              have HA36 := kp (HA35.out.do_ HGW2.out hu hf)
              have HP36_8 := kp (HP35_8.out.do_ HA35.out.lt hf)
              have HP36_9 := kp (HP35_9.out.do_ HA35.out.lt hf)
              clear ho hu hf HA35 HV35 HP35_8 HP35_9
              go_wp2_with (fail)
              refine hK.out _ _ (HSP.out _ HA36.out.o) (fun hS => ?_)
              clear hK K
              try simp only [Act.put,List.getElem_toArray,List.getElem_cons_succ,List.getElem_cons_zero,List.setIfInBounds_toArray,List.set_cons_zero,List.set_cons_succ]
              clear hS
              have X := kp (ap_end HA36.out HP36_8.out HP36_9.out HNE.out.symm (ro st2 se2 D2 E2) (ro st1 se1 D36 E36))
              refine rd1 (i := 10) (by kernel_rfl) rfl (fun K hK => ?_)
              rw [if_pos (by rfl)]
              refine wp_store_row 31 _ _ rfl bb34 (ro st2 se2 D2 E2) rfl rfl 31 _ HP36_8.out.box (by kernel_rfl) rfl (ro1 _ _ _ _) ?_
              refine hK.out _ _ (HSP.out _ X.out.2.1.o) (fun hS => ?_)
              clear hK K
              try simp only [Act.put,List.getElem_toArray,List.getElem_cons_succ,List.getElem_cons_zero,List.setIfInBounds_toArray,List.set_cons_zero,List.set_cons_succ]
              refine rd1 (i := 11) (by kernel_rfl) rfl (fun K hK => ?_)
              rw [if_pos (by rfl)]
              refine wp_store_row 31 _ _ rfl bb28 (ro st1 se1 D36 E36) rfl rfl 31 _ X.out.1 (by kernel_rfl) rfl (ro1 _ _ _ _) ?_
              refine hK.out _ _ (HSP.out _ X.out.2.2.1.o) (fun hS => ?_)
              clear hK K
              try simp only [Act.put,List.getElem_toArray,List.getElem_cons_succ,List.getElem_cons_zero,List.setIfInBounds_toArray,List.set_cons_zero,List.set_cons_succ]
              refine wpAnyH_done (by kernel_rfl) ?_ _
              go_wp2_with (fail)
              go_meet
              exact ⟨bb34, bb28, D2, E2, D36, E36, rfl, rfl, X.out.2.2.2.1, X.out.2.2.2.2, HR2.out, HR36.out, X.out.2.2.1.u, HWO.out _ X.out.2.2.1.o, X.out.2.2.1.b⟩
           refine arc rfl (fun K hK => ?_) ?_
           · as_aux_lemma =>
              have ha := fun o => HA1.out.bel (balloc W1 o)
              go_simp
              refine hK.out _ _ (HSP.out _ (ha _).o) (fun hS => ?_)
              clear hK K
              try simp only [Act.put,List.getElem_toArray,List.getElem_cons_succ,List.getElem_cons_zero,List.setIfInBounds_toArray,List.set_cons_zero,List.set_cons_succ]
              clear hS
              change wpAnyH _ _ _ _ _ _ _ _ (W1.alloc (.cells (rep 0 0) 31))
              have HA37 := kp (ha (.cells (rep 0 0) 31))
              have HP37_8 := kp (Bp.new HA1.out)
              have HV37 := kp (HV1.out.below (balloc W1 (.cells (rep 0 0) 31)))
              clear ha HA1  HV1
              generalize W1.heap.size = bb37 at *
              generalize W1.alloc (.cells (rep 0 0) 31) = W37 at *
              refine rdn [3, 9] (by kernel_rfl) (by simp) ?_
              refine arc rfl (fun K hK => ?_) ?_
              · as_aux_lemma =>
                 go_simp
                 refine (HC1.out _ _ HA37.out.u HV37.out).mono ?_
                 rintro e W38 ⟨dvr, rfl, ho, hu, hf⟩
                 have HR38 := kp (rd0 ho)
                 obtain ⟨D38, E38, rfl, -, -⟩ := Wd.own_form ho
                 have HA38 := kp (HA37.out.do_ HGW2.out hu hf)
                 have HP38_8 := kp (HP37_8.out.do_ HA37.out.lt hf)
                 clear ho hu hf HA37 HV37 HP37_8
                 go_wp2_with (fail)
                 refine hK.out _ _ (HSP.out _ HA38.out.o) (fun hS => ?_)
                 clear hK K
                 try simp only [Act.put,List.getElem_toArray,List.getElem_cons_succ,List.getElem_cons_zero,List.setIfInBounds_toArray,List.set_cons_zero,List.set_cons_succ]
                 clear hS
                 refine rdn [6, 9] (by kernel_rfl) (by simp) ?_
                 refine arc rfl (fun K hK => ?_) ?_
                 · as_aux_lemma =>
                    go_simp
                    refine (Wd.own_any (wcmd p n1 x1) (.slice A1 n1 c1) W38 (H1.out.below HA38.out.b) HL1.out).mono ?_
                    rintro e W39 ⟨ov39, rfl, ho, hb⟩
                    have HA39 := kp (HA38.out.bel hb)
                    have HV39 : Hid (Wd.Secs W39 ov39 (wcmd p n1 x1)) := kp (Wd.Own.secs ho)
                    have HP39_8 := kp (HP38_8.out.bel hb)
                    clear ho hb HA38 HP38_8
                    go_wp2_with (fail)
                    refine hK.out _ _ (HSP.out _ HA39.out.o) (fun hS => ?_)
                    clear hK K
                    try simp only [Act.put,List.getElem_toArray,List.getElem_cons_succ,List.getElem_cons_zero,List.setIfInBounds_toArray,List.set_cons_zero,List.set_cons_succ]
                    clear hS
                    refine rdn [7, 9] (by kernel_rfl) (by simp) ?_
                    refine arc rfl (fun K hK => ?_) ?_
                    · as_aux_lemma =>
                       go_simp
                       refine (HC3.out _ _ HA39.out.u HV39.out).mono ?_
                       rintro e W40 ⟨dvr, rfl, ho, hu, hf⟩
                       have HR40 := kp (rd0 ho)
                       obtain ⟨D40, E40, rfl, -, -⟩ := Wd.own_form ho
                       have HA40 := kp (HA39.out.do_ HGW2.out hu hf)
                       have HP40_8 := kp (HP39_8.out.do_ HA39.out.lt hf)
                       clear ho hu hf HA39 HV39 HP39_8
                       go_wp2_with (fail)
                       refine hK.out _ _ (HSP.out _ HA40.out.o) (fun hS => ?_)
                       clear hK K
                       try simp only [Act.put,List.getElem_toArray,List.getElem_cons_succ,List.getElem_cons_zero,List.setIfInBounds_toArray,List.set_cons_zero,List.set_cons_succ]
                       clear hS
                       refine rd1 (i := 9) (by kernel_rfl) rfl (fun K hK => ?_)
                       have ha := fun o => HA40.out.bel (balloc W40 o)
                       go_simp
                       refine hK.out _ _ (HSP.out _ (ha _).o) (fun hS => ?_)
                       clear hK K
                       try simp only [Act.put,List.getElem_toArray,List.getElem_cons_succ,List.getElem_cons_zero,List.setIfInBounds_toArray,List.set_cons_zero,List.set_cons_succ]
                       clear hS
                       change wpAnyH _ _ _ _ _ _ _ _ (W40.alloc (.cells (rep 0 0) 31))
                       have HA41 := kp (ha (.cells (rep 0 0) 31))
                       have HP41_9 := kp (Bp.new HA40.out)
                       have HP41_8 := kp (HP40_8.out.bel (balloc W40 (.cells (rep 0 0) 31)))
                       have HNE := kp (Nat.ne_of_lt HP40_8.out.lt)
                       clear ha HA40 HP40_8 
                       generalize W40.heap.size = bb41 at *
                       generalize W40.alloc (.cells (rep 0 0) 31) = W41 at *
                       have X := kp (ap_end HA41.out HP41_8.out HP41_9.out HNE.out (ro st2 se2 D38 E38) (ro st1 se1 D40 E40))
                       refine rd1 (i := 10) (by kernel_rfl) rfl (fun K hK => ?_)
                       rw [if_pos (by rfl)]
                       refine wp_store_row 31 _ _ rfl bb37 (ro st2 se2 D38 E38) rfl rfl 31 _ HP41_8.out.box (by kernel_rfl) rfl (ro1 _ _ _ _) ?_
                       refine hK.out _ _ (HSP.out _ X.out.2.1.o) (fun hS => ?_)
                       clear hK K
                       try simp only [Act.put,List.getElem_toArray,List.getElem_cons_succ,List.getElem_cons_zero,List.setIfInBounds_toArray,List.set_cons_zero,List.set_cons_succ]
                       refine rd1 (i := 11) (by kernel_rfl) rfl (fun K hK => ?_)
                       rw [if_pos (by rfl)]
                       refine wp_store_row 31 _ _ rfl bb41 (ro st1 se1 D40 E40) rfl rfl 31 _ X.out.1 (by kernel_rfl) rfl (ro1 _ _ _ _) ?_
                       refine hK.out _ _ (HSP.out _ X.out.2.2.1.o) (fun hS => ?_)
                       clear hK K
                       try simp only [Act.put,List.getElem_toArray,List.getElem_cons_succ,List.getElem_cons_zero,List.setIfInBounds_toArray,List.set_cons_zero,List.set_cons_succ]
                       refine wpAnyH_done (by kernel_rfl) ?_ _
                       go_wp2_with (fail)
                       go_meet
                       exact ⟨bb37, bb41, D38, E38, D40, E40, rfl, rfl, X.out.2.2.2.1, X.out.2.2.2.2, HR38.out, HR40.out, X.out.2.2.1.u, HWO.out _ X.out.2.2.1.o, X.out.2.2.1.b⟩
                    refine arn rfl (fun K hK => ?_)
                    have ha := fun o => HA39.out.bel (balloc W39 o)
                    go_simp
                    refine hK.out _ _ (HSP.out _ (ha _).o) (fun hS => ?_)
                    clear hK K
                    try simp only [Act.put,List.getElem_toArray,List.getElem_cons_succ,List.getElem_cons_zero,List.setIfInBounds_toArray,List.set_cons_zero,List.set_cons_succ]
                    clear hS
                    change wpAnyH _ _ _ _ _ _ _ _ (W39.alloc (.cells (rep 0 0) 31))
                    have HA42 := kp (ha (.cells (rep 0 0) 31))
                    have HP42_9 := kp (Bp.new HA39.out)
                    have HP42_8 := kp (HP39_8.out.bel (balloc W39 (.cells (rep 0 0) 31)))
                    have HNE := kp (Nat.ne_of_lt HP39_8.out.lt)
                    have HV42 := kp (HV39.out.below (balloc W39 (.cells (rep 0 0) 31)))
                    clear ha HA39 HP39_8 HV39
                    generalize W39.heap.size = bb42 at *
                    generalize W39.alloc (.cells (rep 0 0) 31) = W42 at *
                    refine rd1 (i := 7) (by kernel_rfl) rfl (fun K hK => ?_)
                    go_simp
                    refine (HC3.out _ _ HA42.out.u HV42.out).mono ?_
                    rintro e W43 ⟨dvr, rfl, ho, hu, hf⟩
                    have HR43 := kp (rd0 ho)
                    obtain ⟨D43, E43, rfl, -, -⟩ := Wd.own_form ho
                    have HA43 := kp (HA42.out.do_ HGW2.out hu hf)
                    have HP43_9 := kp (HP42_9.out.do_ HA42.out.lt hf)
                    have HP43_8 := kp (HP42_8.out.do_ HA42.out.lt hf)
                    clear ho hu hf HA42 HV42 HP42_9 HP42_8
                    go_wp2_with (fail)
                    refine hK.out _ _ (HSP.out _ HA43.out.o) (fun hS => ?_)
                    clear hK K
                    try simp only [Act.put,List.getElem_toArray,List.getElem_cons_succ,List.getElem_cons_zero,List.setIfInBounds_toArray,List.set_cons_zero,List.set_cons_succ]
                    clear hS
                    have X := kp (ap_end HA43.out HP43_8.out HP43_9.out HNE.out (ro st2 se2 D38 E38) (ro st1 se1 D43 E43))
                    refine rd1 (i := 10) (by kernel_rfl) rfl (fun K hK => ?_)
                    rw [if_pos (by rfl)]
                    refine wp_store_row 31 _ _ rfl bb37 (ro st2 se2 D38 E38) rfl rfl 31 _ HP43_8.out.box (by kernel_rfl) rfl (ro1 _ _ _ _) ?_
                    refine hK.out _ _ (HSP.out _ X.out.2.1.o) (fun hS => ?_)
                    clear hK K
                    try simp only [Act.put,List.getElem_toArray,List.getElem_cons_succ,List.getElem_cons_zero,List.setIfInBounds_toArray,List.set_cons_zero,List.set_cons_succ]
                    refine rd1 (i := 11) (by kernel_rfl) rfl (fun K hK => ?_)
                    rw [if_pos (by rfl)]
                    refine wp_store_row 31 _ _ rfl bb42 (ro st1 se1 D43 E43) rfl rfl 31 _ X.out.1 (by kernel_rfl) rfl (ro1 _ _ _ _) ?_
                    refine hK.out _ _ (HSP.out _ X.out.2.2.1.o) (fun hS => ?_)
                    clear hK K
                    try simp only [Act.put,List.getElem_toArray,List.getElem_cons_succ,List.getElem_cons_zero,List.setIfInBounds_toArray,List.set_cons_zero,List.set_cons_succ]
                    refine wpAnyH_done (by kernel_rfl) ?_ _
                    go_wp2_with (fail)
                    go_meet
                    exact ⟨bb37, bb42, D38, E38, D43, E43, rfl, rfl, X.out.2.2.2.1, X.out.2.2.2.2, HR38.out, HR43.out, X.out.2.2.1.u, HWO.out _ X.out.2.2.1.o, X.out.2.2.1.b⟩
                 refine arn rfl (fun K hK => ?_)
                 have ha := fun o => HA38.out.bel (balloc W38 o)
                 go_simp
                 refine hK.out _ _ (HSP.out _ (ha _).o) (fun hS => ?_)
                 clear hK K
                 try simp only [Act.put,List.getElem_toArray,List.getElem_cons_succ,List.getElem_cons_zero,List.setIfInBounds_toArray,List.set_cons_zero,List.set_cons_succ]
                 clear hS
                 change wpAnyH _ _ _ _ _ _ _ _ (W38.alloc (.cells (rep 0 0) 31))
                 have HA44 := kp (ha (.cells (rep 0 0) 31))
                 have HP44_9 := kp (Bp.new HA38.out)
                 have HP44_8 := kp (HP38_8.out.bel (balloc W38 (.cells (rep 0 0) 31)))
                 have HNE := kp (Nat.ne_of_lt HP38_8.out.lt)
                 clear ha HA38 HP38_8 
                 generalize W38.heap.size = bb44 at *
                 generalize W38.alloc (.cells (rep 0 0) 31) = W44 at *
                 refine rd1 (i := 6) (by kernel_rfl) rfl (fun K hK => ?_)
                 go_simp
                 refine (Wd.own_any (wcmd p n1 x1) (.slice A1 n1 c1) W44 (H1.out.below HA44.out.b) HL1.out).mono ?_
                 rintro e W45 ⟨ov45, rfl, ho, hb⟩
                 have HA45 := kp (HA44.out.bel hb)
                 have HV45 : Hid (Wd.Secs W45 ov45 (wcmd p n1 x1)) := kp (Wd.Own.secs ho)
                 have HP45_9 := kp (HP44_9.out.bel hb)
                 have HP45_8 := kp (HP44_8.out.bel hb)
                 clear ho hb HA44 HP44_9 HP44_8
                 go_wp2_with (fail)
                 refine hK.out _ _ (HSP.out _ HA45.out.o) (fun hS => ?_)
                 clear hK K
                 try simp only [Act.put,List.getElem_toArray,List.getElem_cons_succ,List.getElem_cons_zero,List.setIfInBounds_toArray,List.set_cons_zero,List.set_cons_succ]
                 clear hS
                 refine rd1 (i := 7) (by kernel_rfl) rfl (fun K hK => ?_)
                 go_simp
                 refine (HC3.out _ _ HA45.out.u HV45.out).mono ?_
                 rintro e W46 ⟨dvr, rfl, ho, hu, hf⟩
                 have HR46 := kp (rd0 ho)
                 obtain ⟨D46, E46, rfl, -, -⟩ := Wd.own_form ho
                 have HA46 := kp (HA45.out.do_ HGW2.out hu hf)
                 have HP46_9 := kp (HP45_9.out.do_ HA45.out.lt hf)
                 have HP46_8 := kp (HP45_8.out.do_ HA45.out.lt hf)
                 clear ho hu hf HA45 HV45 HP45_9 HP45_8
                 go_wp2_with (fail)
                 refine hK.out _ _ (HSP.out _ HA46.out.o) (fun hS => ?_)
                 clear hK K
                 try simp only [Act.put,List.getElem_toArray,List.getElem_cons_succ,List.getElem_cons_zero,List.setIfInBounds_toArray,List.set_cons_zero,List.set_cons_succ]
                 clear hS
                 have X := kp (ap_end HA46.out HP46_8.out HP46_9.out HNE.out (ro st2 se2 D38 E38) (ro st1 se1 D46 E46))
                 refine rd1 (i := 10) (by kernel_rfl) rfl (fun K hK => ?_)
                 rw [if_pos (by rfl)]
                 refine wp_store_row 31 _ _ rfl bb37 (ro st2 se2 D38 E38) rfl rfl 31 _ HP46_8.out.box (by kernel_rfl) rfl (ro1 _ _ _ _) ?_
                 refine hK.out _ _ (HSP.out _ X.out.2.1.o) (fun hS => ?_)
                 clear hK K
                 try simp only [Act.put,List.getElem_toArray,List.getElem_cons_succ,List.getElem_cons_zero,List.setIfInBounds_toArray,List.set_cons_zero,List.set_cons_succ]
                 refine rd1 (i := 11) (by kernel_rfl) rfl (fun K hK => ?_)
                 rw [if_pos (by rfl)]
                 refine wp_store_row 31 _ _ rfl bb44 (ro st1 se1 D46 E46) rfl rfl 31 _ X.out.1 (by kernel_rfl) rfl (ro1 _ _ _ _) ?_
                 refine hK.out _ _ (HSP.out _ X.out.2.2.1.o) (fun hS => ?_)
                 clear hK K
                 try simp only [Act.put,List.getElem_toArray,List.getElem_cons_succ,List.getElem_cons_zero,List.setIfInBounds_toArray,List.set_cons_zero,List.set_cons_succ]
                 refine wpAnyH_done (by kernel_rfl) ?_ _
                 go_wp2_with (fail)
                 go_meet
                 exact ⟨bb37, bb44, D38, E38, D46, E46, rfl, rfl, X.out.2.2.2.1, X.out.2.2.2.2, HR38.out, HR46.out, X.out.2.2.1.u, HWO.out _ X.out.2.2.1.o, X.out.2.2.1.b⟩
              refine arn rfl (fun K hK => ?_)
              have ha := fun o => HA37.out.bel (balloc W37 o)
              go_simp
              refine hK.out _ _ (HSP.out _ (ha _).o) (fun hS => ?_)
              clear hK K
              try simp only [Act.put,List.getElem_toArray,List.getElem_cons_succ,List.getElem_cons_zero,List.setIfInBounds_toArray,List.set_cons_zero,List.set_cons_succ]
              clear hS
              change wpAnyH _ _ _ _ _ _ _ _ (W37.alloc (.cells (rep 0 0) 31))
              have HA47 := kp (ha (.cells (rep 0 0) 31))
              have HP47_9 := kp (Bp.new HA37.out)
              have HP47_8 := kp (HP37_8.out.bel (balloc W37 (.cells (rep 0 0) 31)))
              have HNE := kp (Nat.ne_of_lt HP37_8.out.lt)
              have HV47 := kp (HV37.out.below (balloc W37 (.cells (rep 0 0) 31)))
              clear ha HA37 HP37_8 HV37
              generalize W37.heap.size = bb47 at *
              generalize W37.alloc (.cells (rep 0 0) 31) = W47 at *
              refine rd1 (i := 3) (by kernel_rfl) rfl (fun K hK => ?_)
              go_simp
              refine (HC1.out _ _ HA47.out.u HV47.out).mono ?_
              rintro e W48 ⟨dvr, rfl, ho, hu, hf⟩
              have HR48 := kp (rd0 ho)
              obtain ⟨D48, E48, rfl, -, -⟩ := Wd.own_form ho
              have HA48 := kp (HA47.out.do_ HGW2.out hu hf)
              have HP48_9 := kp (HP47_9.out.do_ HA47.out.lt hf)
              have HP48_8 := kp (HP47_8.out.do_ HA47.out.lt hf)
              clear ho hu hf HA47 HV47 HP47_9 HP47_8
              go_wp2_with (fail)
              refine hK.out _ _ (HSP.out _ HA48.out.o) (fun hS => ?_)
              clear hK K
              try simp only [Act.put,List.getElem_toArray,List.getElem_cons_succ,List.getElem_cons_zero,List.setIfInBounds_toArray,List.set_cons_zero,List.set_cons_succ]
              clear hS
              refine rd1 (i := 6) (by kernel_rfl) rfl (fun K hK => ?_)
              go_simp
              refine (Wd.own_any (wcmd p n1 x1) (.slice A1 n1 c1) W48 (H1.out.below HA48.out.b) HL1.out).mono ?_
              rintro e W49 ⟨ov49, rfl, ho, hb⟩
              have HA49 := kp (HA48.out.bel hb)
              have HV49 : Hid (Wd.Secs W49 ov49 (wcmd p n1 x1)) := kp (Wd.Own.secs ho)
              have HP49_9 := kp (HP48_9.out.bel hb)
              have HP49_8 := kp (HP48_8.out.bel hb)
              clear ho hb HA48 HP48_9 HP48_8
              go_wp2_with (fail)
              refine hK.out _ _ (HSP.out _ HA49.out.o) (fun hS => ?_)
              clear hK K
              try simp only [Act.put,List.getElem_toArray,List.getElem_cons_succ,List.getElem_cons_zero,List.setIfInBounds_toArray,List.set_cons_zero,List.set_cons_succ]
              clear hS
              refine rd1 (i := 7) (by kernel_rfl) rfl (fun K hK => ?_)
              go_simp
              refine (HC3.out _ _ HA49.out.u HV49.out).mono ?_
              rintro e W50 ⟨dvr, rfl, ho, hu, hf⟩
              have HR50 := kp (rd0 ho)
              obtain ⟨D50, E50, rfl, -, -⟩ := Wd.own_form ho
              have HA50 := kp (HA49.out.do_ HGW2.out hu hf)
              have HP50_9 := kp (HP49_9.out.do_ HA49.out.lt hf)
              have HP50_8 := kp (HP49_8.out.do_ HA49.out.lt hf)
              clear ho hu hf HA49 HV49 HP49_9 HP49_8
              go_wp2_with (fail)
              refine hK.out _ _ (HSP.out _ HA50.out.o) (fun hS => ?_)
              clear hK K
              try simp only [Act.put,List.getElem_toArray,List.getElem_cons_succ,List.getElem_cons_zero,List.setIfInBounds_toArray,List.set_cons_zero,List.set_cons_succ]
              clear hS
              have X := kp (ap_end HA50.out HP50_8.out HP50_9.out HNE.out (ro st2 se2 D48 E48) (ro st1 se1 D50 E50))
              refine rd1 (i := 10) (by kernel_rfl) rfl (fun K hK => ?_)
              rw [if_pos (by rfl)]
              refine wp_store_row 31 _ _ rfl bb37 (ro st2 se2 D48 E48) rfl rfl 31 _ HP50_8.out.box (by kernel_rfl) rfl (ro1 _ _ _ _) ?_
              refine hK.out _ _ (HSP.out _ X.out.2.1.o) (fun hS => ?_)
              clear hK K
              try simp only [Act.put,List.getElem_toArray,List.getElem_cons_succ,List.getElem_cons_zero,List.setIfInBounds_toArray,List.set_cons_zero,List.set_cons_succ]
              refine rd1 (i := 11) (by kernel_rfl) rfl (fun K hK => ?_)
              rw [if_pos (by rfl)]
              refine wp_store_row 31 _ _ rfl bb47 (ro st1 se1 D50 E50) rfl rfl 31 _ X.out.1 (by kernel_rfl) rfl (ro1 _ _ _ _) ?_
              refine hK.out _ _ (HSP.out _ X.out.2.2.1.o) (fun hS => ?_)
              clear hK K
              try simp only [Act.put,List.getElem_toArray,List.getElem_cons_succ,List.getElem_cons_zero,List.setIfInBounds_toArray,List.set_cons_zero,List.set_cons_succ]
              refine wpAnyH_done (by kernel_rfl) ?_ _
              go_wp2_with (fail)
              go_meet
              exact ⟨bb37, bb47, D48, E48, D50, E50, rfl, rfl, X.out.2.2.2.1, X.out.2.2.2.2, HR48.out, HR50.out, X.out.2.2.1.u, HWO.out _ X.out.2.2.1.o, X.out.2.2.1.b⟩
           refine arn rfl (fun K hK => ?_)
           have ha := fun o => HA1.out.bel (balloc W1 o)
           go_simp
           refine hK.out _ _ (HSP.out _ (ha _).o) (fun hS => ?_)
           clear hK K
           try simp only [Act.put,List.getElem_toArray,List.getElem_cons_succ,List.getElem_cons_zero,List.setIfInBounds_toArray,List.set_cons_zero,List.set_cons_succ]
           clear hS
           change wpAnyH _ _ _ _ _ _ _ _ (W1.alloc (.cells (rep 0 0) 31))
           have HA51 := kp (ha (.cells (rep 0 0) 31))
           have HP51_9 := kp (Bp.new HA1.out)
           have HV51 := kp (HV1.out.below (balloc W1 (.cells (rep 0 0) 31)))
           clear ha HA1  HV1
           generalize W1.heap.size = bb51 at *
           generalize W1.alloc (.cells (rep 0 0) 31) = W51 at *
           refine rdn [3, 8] (by kernel_rfl) (by simp) ?_
           refine arc rfl (fun K hK => ?_) ?_
           · as_aux_lemma =>
              go_simp
              refine (HC1.out _ _ HA51.out.u HV51.out).mono ?_
              rintro e W52 ⟨dvr, rfl, ho, hu, hf⟩
              have HR52 := kp (rd0 ho)
              obtain ⟨D52, E52, rfl, -, -⟩ := Wd.own_form ho
              have HA52 := kp (HA51.out.do_ HGW2.out hu hf)
              have HP52_9 := kp (HP51_9.out.do_ HA51.out.lt hf)
              clear ho hu hf HA51 HV51 HP51_9
              go_wp2_with (fail)
              refine hK.out _ _ (HSP.out _ HA52.out.o) (fun hS => ?_)
              clear hK K
              try simp only [Act.put,List.getElem_toArray,List.getElem_cons_succ,List.getElem_cons_zero,List.setIfInBounds_toArray,List.set_cons_zero,List.set_cons_succ]
              clear hS
              refine rdn [6, 8] (by kernel_rfl) (by simp) ?_
              refine arc rfl (fun K hK => ?_) ?_
              · as_aux_lemma =>
                 go_simp
                 refine (Wd.own_any (wcmd p n1 x1) (.slice A1 n1 c1) W52 (H1.out.below HA52.out.b) HL1.out).mono ?_
                 rintro e W53 ⟨ov53, rfl, ho, hb⟩
                 have HA53 := kp (HA52.out.bel hb)
                 have HV53 : Hid (Wd.Secs W53 ov53 (wcmd p n1 x1)) := kp (Wd.Own.secs ho)
                 have HP53_9 := kp (HP52_9.out.bel hb)
                 clear ho hb HA52 HP52_9
                 go_wp2_with (fail)
                 refine hK.out _ _ (HSP.out _ HA53.out.o) (fun hS => ?_)
                 clear hK K
                 try simp only [Act.put,List.getElem_toArray,List.getElem_cons_succ,List.getElem_cons_zero,List.setIfInBounds_toArray,List.set_cons_zero,List.set_cons_succ]
                 clear hS
                 refine rdn [7, 8] (by kernel_rfl) (by simp) ?_
                 refine arc rfl (fun K hK => ?_) ?_
                 · as_aux_lemma =>
                    go_simp
                    refine (HC3.out _ _ HA53.out.u HV53.out).mono ?_
                    rintro e W54 ⟨dvr, rfl, ho, hu, hf⟩
                    have HR54 := kp (rd0 ho)
                    obtain ⟨D54, E54, rfl, -, -⟩ := Wd.own_form ho
                    have HA54 := kp (HA53.out.do_ HGW2.out hu hf)
                    have HP54_9 := kp (HP53_9.out.do_ HA53.out.lt hf)
                    clear ho hu hf HA53 HV53 HP53_9
                    go_wp2_with (fail)
                    refine hK.out _ _ (HSP.out _ HA54.out.o) (fun hS => ?_)
                    clear hK K
                    try simp only [Act.put,List.getElem_toArray,List.getElem_cons_succ,List.getElem_cons_zero,List.setIfInBounds_toArray,List.set_cons_zero,List.set_cons_succ]
                    clear hS
                    refine rd1 (i := 8) (by kernel_rfl) rfl (fun K hK => ?_)
                    have ha := fun o => HA54.out.bel (balloc W54 o)
                    go_simp
                    refine hK.out _ _ (HSP.out _ (ha _).o) (fun hS => ?_)
                    clear hK K
                    try simp only [Act.put,List.getElem_toArray,List.getElem_cons_succ,List.getElem_cons_zero,List.setIfInBounds_toArray,List.set_cons_zero,List.set_cons_succ]
                    clear hS
                    change wpAnyH _ _ _ _ _ _ _ _ (W54.alloc (.cells (rep 0 0) 31))
                    have HA55 := kp (ha (.cells (rep 0 0) 31))
                    have HP55_8 := kp (Bp.new HA54.out)
                    have HP55_9 := kp (HP54_9.out.bel (balloc W54 (.cells (rep 0 0) 31)))
                    have HNE := kp (Nat.ne_of_lt HP54_9.out.lt)
                    clear ha HA54 HP54_9 
                    generalize W54.heap.size = bb55 at *
                    generalize W54.alloc (.cells (rep 0 0) 31) = W55 at *
                    have X := kp (ap_end HA55.out HP55_8.out HP55_9.out HNE.out.symm (ro st2 se2 D52 E52) (ro st1 se1 D54 E54))
                    refine rd1 (i := 10) (by kernel_rfl) rfl (fun K hK => ?_)
                    rw [if_pos (by rfl)]
                    refine wp_store_row 31 _ _ rfl bb55 (ro st2 se2 D52 E52) rfl rfl 31 _ HP55_8.out.box (by kernel_rfl) rfl (ro1 _ _ _ _) ?_
                    refine hK.out _ _ (HSP.out _ X.out.2.1.o) (fun hS => ?_)
                    clear hK K
                    try simp only [Act.put,List.getElem_toArray,List.getElem_cons_succ,List.getElem_cons_zero,List.setIfInBounds_toArray,List.set_cons_zero,List.set_cons_succ]
                    refine rd1 (i := 11) (by kernel_rfl) rfl (fun K hK => ?_)
                    rw [if_pos (by rfl)]
                    refine wp_store_row 31 _ _ rfl bb51 (ro st1 se1 D54 E54) rfl rfl 31 _ X.out.1 (by kernel_rfl) rfl (ro1 _ _ _ _) ?_
                    refine hK.out _ _ (HSP.out _ X.out.2.2.1.o) (fun hS => ?_)
                    clear hK K
                    try simp only [Act.put,List.getElem_toArray,List.getElem_cons_succ,List.getElem_cons_zero,List.setIfInBounds_toArray,List.set_cons_zero,List.set_cons_succ]
                    refine wpAnyH_done (by kernel_rfl) ?_ _
                    go_wp2_with (fail)
                    go_meet
                    exact ⟨bb55, bb51, D52, E52, D54, E54, rfl, rfl, X.out.2.2.2.1, X.out.2.2.2.2, HR52.out, HR54.out, X.out.2.2.1.u, HWO.out _ X.out.2.2.1.o, X.out.2.2.1.b⟩
                 refine arn rfl (fun K hK => ?_)
                 have ha := fun o => HA53.out.bel (balloc W53 o)
                 go_simp
                 refine hK.out _ _ (HSP.out _ (ha _).o) (fun hS => ?_)
                 clear hK K
                 try simp only [Act.put,List.getElem_toArray,List.getElem_cons_succ,List.getElem_cons_zero,List.setIfInBounds_toArray,List.set_cons_zero,List.set_cons_succ]
                 clear hS
                 change wpAnyH _ _ _ _ _ _ _ _ (W53.alloc (.cells (rep 0 0) 31))
                 have HA56 := kp (ha (.cells (rep 0 0) 31))
                 have HP56_8 := kp (Bp.new HA53.out)
                 have HP56_9 := kp (HP53_9.out.bel (balloc W53 (.cells (rep 0 0) 31)))
                 have HNE := kp (Nat.ne_of_lt HP53_9.out.lt)
                 have HV56 := kp (HV53.out.below (balloc W53 (.cells (rep 0 0) 31)))
                 clear ha HA53 HP53_9 HV53
                 generalize W53.heap.size = bb56 at *
                 generalize W53.alloc (.cells (rep 0 0) 31) = W56 at *
                 refine rd1 (i := 7) (by kernel_rfl) rfl (fun K hK => ?_)
                 go_simp
                 refine (HC3.out _ _ HA56.out.u HV56.out).mono ?_
                 rintro e W57 ⟨dvr, rfl, ho, hu, hf⟩
                 have HR57 := kp (rd0 ho)
                 obtain ⟨D57, E57, rfl, -, -⟩ := Wd.own_form ho
                 have HA57 := kp (HA56.out.do_ HGW2.out hu hf)
                 have HP57_8 := kp (HP56_8.out.do_ HA56.out.lt hf)
                 have HP57_9 := kp (HP56_9.out.do_ HA56.out.lt hf)
                 clear ho hu hf HA56 HV56 HP56_8 HP56_9
                 go_wp2_with (fail)
                 refine hK.out _ _ (HSP.out _ HA57.out.o) (fun hS => ?_)
                 clear hK K
                 try simp only [Act.put,List.getElem_toArray,List.getElem_cons_succ,List.getElem_cons_zero,List.setIfInBounds_toArray,List.set_cons_zero,List.set_cons_succ]
                 clear hS
                 have X := kp (ap_end HA57.out HP57_8.out HP57_9.out HNE.out.symm (ro st2 se2 D52 E52) (ro st1 se1 D57 E57))
                 refine rd1 (i := 10) (by kernel_rfl) rfl (fun K hK => ?_)
                 rw [if_pos (by rfl)]
                 refine wp_store_row 31 _ _ rfl bb56 (ro st2 se2 D52 E52) rfl rfl 31 _ HP57_8.out.box (by kernel_rfl) rfl (ro1 _ _ _ _) ?_
                 refine hK.out _ _ (HSP.out _ X.out.2.1.o) (fun hS => ?_)
                 clear hK K
                 try simp only [Act.put,List.getElem_toArray,List.getElem_cons_succ,List.getElem_cons_zero,List.setIfInBounds_toArray,List.set_cons_zero,List.set_cons_succ]
                 refine rd1 (i := 11) (by kernel_rfl) rfl (fun K hK => ?_)
                 rw [if_pos (by rfl)]
                 refine wp_store_row 31 _ _ rfl bb51 (ro st1 se1 D57 E57) rfl rfl 31 _ X.out.1 (by kernel_rfl) rfl (ro1 _ _ _ _) ?_
                 refine hK.out _ _ (HSP.out _ X.out.2.2.1.o) (fun hS => ?_)
                 clear hK K
                 try simp only [Act.put,List.getElem_toArray,List.getElem_cons_succ,List.getElem_cons_zero,List.setIfInBounds_toArray,List.set_cons_zero,List.set_cons_succ]
                 refine wpAnyH_done (by kernel_rfl) ?_ _
                 go_wp2_with (fail)
                 go_meet
                 exact ⟨bb56, bb51, D52, E52, D57, E57, rfl, rfl, X.out.2.2.2.1, X.out.2.2.2.2, HR52.out, HR57.out, X.out.2.2.1.u, HWO.out _ X.out.2.2.1.o, X.out.2.2.1.b⟩
              refine arn rfl (fun K hK => ?_)
              have ha := fun o => HA52.out.bel (balloc W52 o)
              go_simp
              refine hK.out _ _ (HSP.out _ (ha _).o) (fun hS => ?_)
              clear hK K
              try simp only [Act.put,List.getElem_toArray,List.getElem_cons_succ,List.getElem_cons_zero,List.setIfInBounds_toArray,List.set_cons_zero,List.set_cons_succ]
              clear hS
              change wpAnyH _ _ _ _ _ _ _ _ (W52.alloc (.cells (rep 0 0) 31))
              have HA58 := kp (ha (.cells (rep 0 0) 31))
              have HP58_8 := kp (Bp.new HA52.out)
              have HP58_9 := kp (HP52_9.out.bel (balloc W52 (.cells (rep 0 0) 31)))
              have HNE := kp (Nat.ne_of_lt HP52_9.out.lt)
              clear ha HA52 HP52_9 
              generalize W52.heap.size = bb58 at *
              generalize W52.alloc (.cells (rep 0 0) 31) = W58 at *
              refine rd1 (i := 6) (by kernel_rfl) rfl (fun K hK => ?_)
              go_simp
              refine (Wd.own_any (wcmd p n1 x1) (.slice A1 n1 c1) W58 (H1.out.below HA58.out.b) HL1.out).mono ?_
              rintro e W59 ⟨ov59, rfl, ho, hb⟩
              have HA59 := kp (HA58.out.bel hb)
              have HV59 : Hid (Wd.Secs W59 ov59 (wcmd p n1 x1)) := kp (Wd.Own.secs ho)
              have HP59_8 := kp (HP58_8.out.bel hb)
              have HP59_9 := kp (HP58_9.out.bel hb)
              clear ho hb HA58 HP58_8 HP58_9
              go_wp2_with (fail)
              refine hK.out _ _ (HSP.out _ HA59.out.o) (fun hS => ?_)
              clear hK K
              try simp only [Act.put,List.getElem_toArray,List.getElem_cons_succ,List.getElem_cons_zero,List.setIfInBounds_toArray,List.set_cons_zero,List.set_cons_succ]
              clear hS
              refine rd1 (i := 7) (by kernel_rfl) rfl (fun K hK => ?_)
              go_simp
              refine (HC3.out _ _ HA59.out.u HV59.out).mono ?_
              rintro e W60 ⟨dvr, rfl, ho, hu, hf⟩
              have HR60 := kp (rd0 ho)
              obtain ⟨D60, E60, rfl, -, -⟩ := Wd.own_form ho
              have HA60 := kp (HA59.out.do_ HGW2.out hu hf)
              have HP60_8 := kp (HP59_8.out.do_ HA59.out.lt hf)
              have HP60_9 := kp (HP59_9.out.do_ HA59.out.lt hf)
              clear ho hu hf HA59 HV59 HP59_8 HP59_9
              go_wp2_with (fail)
              refine hK.out _ _ (HSP.out _ HA60.out.o) (fun hS => ?_)
              clear hK K
              try simp only [Act.put,List.getElem_toArray,List.getElem_cons_succ,List.getElem_cons_zero,List.setIfInBounds_toArray,List.set_cons_zero,List.set_cons_succ]
              clear hS
              have X := kp (ap_end HA60.out HP60_8.out HP60_9.out HNE.out.symm (ro st2 se2 D52 E52) (ro st1 se1 D60 E60))
              refine rd1 (i := 10) (by kernel_rfl) rfl (fun K hK => ?_)
              rw [if_pos (by rfl)]
              refine wp_store_row 31 _ _ rfl bb58 (ro st2 se2 D52 E52) rfl rfl 31 _ HP60_8.out.box (by kernel_rfl) rfl (ro1 _ _ _ _) ?_
              refine hK.out _ _ (HSP.out _ X.out.2.1.o) (fun hS => ?_)
              clear hK K
              try simp only [Act.put,List.getElem_toArray,List.getElem_cons_succ,List.getElem_cons_zero,List.setIfInBounds_toArray,List.set_cons_zero,List.set_cons_succ]
              refine rd1 (i := 11) (by kernel_rfl) rfl (fun K hK => ?_)
              rw [if_pos (by rfl)]
              refine wp_store_row 31 _ _ rfl bb51 (ro st1 se1 D60 E60) rfl rfl 31 _ X.out.1 (by kernel_rfl) rfl (ro1 _ _ _ _) ?_
              refine hK.out _ _ (HSP.out _ X.out.2.2.1.o) (fun hS => ?_)
              clear hK K
              try simp only [Act.put,List.getElem_toArray,List.getElem_cons_succ,List.getElem_cons_zero,List.setIfInBounds_toArray,List.set_cons_zero,List.set_cons_succ]
              refine wpAnyH_done (by kernel_rfl) ?_ _
              go_wp2_with (fail)
              go_meet
              exact ⟨bb58, bb51, D52, E52, D60, E60, rfl, rfl, X.out.2.2.2.1, X.out.2.2.2.2, HR52.out, HR60.out, X.out.2.2.1.u, HWO.out _ X.out.2.2.1.o, X.out.2.2.1.b⟩
           refine arn rfl (fun K hK => ?_)
           have ha := fun o => HA51.out.bel (balloc W51 o)
           go_simp
           refine hK.out _ _ (HSP.out _ (ha _).o) (fun hS => ?_)
           clear hK K
           try simp only [Act.put,List.getElem_toArray,List.getElem_cons_succ,List.getElem_cons_zero,List.setIfInBounds_toArray,List.set_cons_zero,List.set_cons_succ]
           clear hS
           change wpAnyH _ _ _ _ _ _ _ _ (W51.alloc (.cells (rep 0 0) 31))
           have HA61 := kp (ha (.cells (rep 0 0) 31))
           have HP61_8 := kp (Bp.new HA51.out)
           have HP61_9 := kp (HP51_9.out.bel (balloc W51 (.cells (rep 0 0) 31)))
           have HNE := kp (Nat.ne_of_lt HP51_9.out.lt)
           have HV61 := kp (HV51.out.below (balloc W51 (.cells (rep 0 0) 31)))
           clear ha HA51 HP51_9 HV51
           generalize W51.heap.size = bb61 at *
           generalize W51.alloc (.cells (rep 0 0) 31) = W61 at *
           refine rd1 (i := 3) (by kernel_rfl) rfl (fun K hK => ?_)
           go_simp
           refine (HC1.out _ _ HA61.out.u HV61.out).mono ?_
           rintro e W62 ⟨dvr, rfl, ho, hu, hf⟩
           have HR62 := kp (rd0 ho)
           obtain ⟨D62, E62, rfl, -, -⟩ := Wd.own_form ho
           have HA62 := kp (HA61.out.do_ HGW2.out hu hf)
           have HP62_8 := kp (HP61_8.out.do_ HA61.out.lt hf)
           have HP62_9 := kp (HP61_9.out.do_ HA61.out.lt hf)
           clear ho hu hf HA61 HV61 HP61_8 HP61_9
           go_wp2_with (fail)
           refine hK.out _ _ (HSP.out _ HA62.out.o) (fun hS => ?_)
           clear hK K
           try simp only [Act.put,List.getElem_toArray,List.getElem_cons_succ,List.getElem_cons_zero,List.setIfInBounds_toArray,List.set_cons_zero,List.set_cons_succ]
           clear hS
           refine rd1 (i := 6) (by kernel_rfl) rfl (fun K hK => ?_)
           go_simp
           refine (Wd.own_any (wcmd p n1 x1) (.slice A1 n1 c1) W62 (H1.out.below HA62.out.b) HL1.out).mono ?_
           rintro e W63 ⟨ov63, rfl, ho, hb⟩
           have HA63 := kp (HA62.out.bel hb)
           have HV63 : Hid (Wd.Secs W63 ov63 (wcmd p n1 x1)) := kp (Wd.Own.secs ho)
           have HP63_8 := kp (HP62_8.out.bel hb)
           have HP63_9 := kp (HP62_9.out.bel hb)
           clear ho hb HA62 HP62_8 HP62_9
           go_wp2_with (fail)
           refine hK.out _ _ (HSP.out _ HA63.out.o) (fun hS => ?_)
           clear hK K
           try simp only [Act.put,List.getElem_toArray,List.getElem_cons_succ,List.getElem_cons_zero,List.setIfInBounds_toArray,List.set_cons_zero,List.set_cons_succ]
           clear hS
           refine rd1 (i := 7) (by kernel_rfl) rfl (fun K hK => ?_)
           go_simp
           refine (HC3.out _ _ HA63.out.u HV63.out).mono ?_
           rintro e W64 ⟨dvr, rfl, ho, hu, hf⟩
           have HR64 := kp (rd0 ho)
           obtain ⟨D64, E64, rfl, -, -⟩ := Wd.own_form ho
           have HA64 := kp (HA63.out.do_ HGW2.out hu hf)
           have HP64_8 := kp (HP63_8.out.do_ HA63.out.lt hf)
           have HP64_9 := kp (HP63_9.out.do_ HA63.out.lt hf)
           clear ho hu hf HA63 HV63 HP63_8 HP63_9
           go_wp2_with (fail)
           refine hK.out _ _ (HSP.out _ HA64.out.o) (fun hS => ?_)
           clear hK K
           try simp only [Act.put,List.getElem_toArray,List.getElem_cons_succ,List.getElem_cons_zero,List.setIfInBounds_toArray,List.set_cons_zero,List.set_cons_succ]
           clear hS
           have X := kp (ap_end HA64.out HP64_8.out HP64_9.out HNE.out.symm (ro st2 se2 D62 E62) (ro st1 se1 D64 E64))
           refine rd1 (i := 10) (by kernel_rfl) rfl (fun K hK => ?_)
           rw [if_pos (by rfl)]
           refine wp_store_row 31 _ _ rfl bb61 (ro st2 se2 D62 E62) rfl rfl 31 _ HP64_8.out.box (by kernel_rfl) rfl (ro1 _ _ _ _) ?_
           refine hK.out _ _ (HSP.out _ X.out.2.1.o) (fun hS => ?_)
           clear hK K
           try simp only [Act.put,List.getElem_toArray,List.getElem_cons_succ,List.getElem_cons_zero,List.setIfInBounds_toArray,List.set_cons_zero,List.set_cons_succ]
           refine rd1 (i := 11) (by kernel_rfl) rfl (fun K hK => ?_)
           rw [if_pos (by rfl)]
           refine wp_store_row 31 _ _ rfl bb51 (ro st1 se1 D64 E64) rfl rfl 31 _ X.out.1 (by kernel_rfl) rfl (ro1 _ _ _ _) ?_
           refine hK.out _ _ (HSP.out _ X.out.2.2.1.o) (fun hS => ?_)
           clear hK K
           try simp only [Act.put,List.getElem_toArray,List.getElem_cons_succ,List.getElem_cons_zero,List.setIfInBounds_toArray,List.set_cons_zero,List.set_cons_succ]
           refine wpAnyH_done (by kernel_rfl) ?_ _
           go_wp2_with (fail)
           go_meet
           exact ⟨bb61, bb51, D62, E62, D64, E64, rfl, rfl, X.out.2.2.2.1, X.out.2.2.2.2, HR62.out, HR64.out, X.out.2.2.1.u, HWO.out _ X.out.2.2.1.o, X.out.2.2.1.b⟩
        refine arc rfl (fun K hK => ?_) ?_
        · as_aux_lemma =>
           have ha := fun o => HA0.out.bel (balloc wS o)
           go_simp
           refine hK.out _ _ (HSP.out _ (ha _).o) (fun hS => ?_)
           clear hK K
           try simp only [Act.put,List.getElem_toArray,List.getElem_cons_succ,List.getElem_cons_zero,List.setIfInBounds_toArray,List.set_cons_zero,List.set_cons_succ]
           clear hS
           change wpAnyH _ _ _ _ _ _ _ _ (wS.alloc (.cells (rep 0 0) 31))
           have HA65 := kp (ha (.cells (rep 0 0) 31))
           have HP65_8 := kp (Bp.new HA0.out)
           clear ha HA0  
           generalize wS.heap.size = bb65 at *
           generalize wS.alloc (.cells (rep 0 0) 31) = W65 at *
           refine rdn [2, 9] (by kernel_rfl) (by simp) ?_
           refine arc rfl (fun K hK => ?_) ?_
           · as_aux_lemma =>
              go_simp
              refine (Wd.own_any (wcmd r n2 x2) (.slice A2 n2 c2) W65 (H2.out.below HA65.out.b) HL2.out).mono ?_
              rintro e W66 ⟨ov66, rfl, ho, hb⟩
              have HA66 := kp (HA65.out.bel hb)
              have HV66 : Hid (Wd.Secs W66 ov66 (wcmd r n2 x2)) := kp (Wd.Own.secs ho)
              have HP66_8 := kp (HP65_8.out.bel hb)
              clear ho hb HA65 HP65_8
              go_wp2_with (fail)
              refine hK.out _ _ (HSP.out _ HA66.out.o) (fun hS => ?_)
              clear hK K
              try simp only [Act.put,List.getElem_toArray,List.getElem_cons_succ,List.getElem_cons_zero,List.setIfInBounds_toArray,List.set_cons_zero,List.set_cons_succ]
              clear hS
              refine rdn [3, 9] (by kernel_rfl) (by simp) ?_
              refine arc rfl (fun K hK => ?_) ?_
              · as_aux_lemma =>
                 go_simp
                 refine (HC1.out _ _ HA66.out.u HV66.out).mono ?_
                 rintro e W67 ⟨dvr, rfl, ho, hu, hf⟩
                 have HR67 := kp (rd0 ho)
                 obtain ⟨D67, E67, rfl, -, -⟩ := Wd.own_form ho
                 have HA67 := kp (HA66.out.do_ HGW2.out hu hf)
                 have HP67_8 := kp (HP66_8.out.do_ HA66.out.lt hf)
                 clear ho hu hf HA66 HV66 HP66_8
                 go_wp2_with (fail)
                 refine hK.out _ _ (HSP.out _ HA67.out.o) (fun hS => ?_)
                 clear hK K
                 try simp only [Act.put,List.getElem_toArray,List.getElem_cons_succ,List.getElem_cons_zero,List.setIfInBounds_toArray,List.set_cons_zero,List.set_cons_succ]
                 clear hS
                 refine rdn [6, 9] (by kernel_rfl) (by simp) ?_
                 refine arc rfl (fun K hK => ?_) ?_
                 · as_aux_lemma =>
                    go_simp
                    refine (Wd.own_any (wcmd p n1 x1) (.slice A1 n1 c1) W67 (H1.out.below HA67.out.b) HL1.out).mono ?_
                    rintro e W68 ⟨ov68, rfl, ho, hb⟩
                    have HA68 := kp (HA67.out.bel hb)
                    have HV68 : Hid (Wd.Secs W68 ov68 (wcmd p n1 x1)) := kp (Wd.Own.secs ho)
                    have HP68_8 := kp (HP67_8.out.bel hb)
                    clear ho hb HA67 HP67_8
                    go_wp2_with (fail)
                    refine hK.out _ _ (HSP.out _ HA68.out.o) (fun hS => ?_)
                    clear hK K
                    try simp only [Act.put,List.getElem_toArray,List.getElem_cons_succ,List.getElem_cons_zero,List.setIfInBounds_toArray,List.set_cons_zero,List.set_cons_succ]
                    clear hS
                    refine rdn [7, 9] (by kernel_rfl) (by simp) ?_
                    refine arc rfl (fun K hK => ?_) ?_
                    · as_aux_lemma =>
                       go_simp
                       refine (HC3.out _ _ HA68.out.u HV68.out).mono ?_
                       rintro e W69 ⟨dvr, rfl, ho, hu, hf⟩
                       have HR69 := kp (rd0 ho)
                       obtain ⟨D69, E69, rfl, -, -⟩ := Wd.own_form ho
                       have HA69 := kp (HA68.out.do_ HGW2.out hu hf)
                       have HP69_8 := kp (HP68_8.out.do_ HA68.out.lt hf)
                       clear ho hu hf HA68 HV68 HP68_8
                       go_wp2_with (fail)
                       refine hK.out _ _ (HSP.out _ HA69.out.o) (fun hS => ?_)
                       clear hK K
                       try simp only [Act.put,List.getElem_toArray,List.getElem_cons_succ,List.getElem_cons_zero,List.setIfInBounds_toArray,List.set_cons_zero,List.set_cons_succ]
                       clear hS
                       refine rd1 (i := 9) (by kernel_rfl) rfl (fun K hK => ?_)
                       have ha := fun o => HA69.out.bel (balloc W69 o)
                       go_simp
                       refine hK.out _ _ (HSP.out _ (ha _).o) (fun hS => ?_)
                       clear hK K
                       try simp only [Act.put,List.getElem_toArray,List.getElem_cons_succ,List.getElem_cons_zero,List.setIfInBounds_toArray,List.set_cons_zero,List.set_cons_succ]
                       clear hS
                       change wpAnyH _ _ _ _ _ _ _ _ (W69.alloc (.cells (rep 0 0) 31))
                       have HA70 := kp (ha (.cells (rep 0 0) 31))
                       have HP70_9 := kp (Bp.new HA69.out)
                       have HP70_8 := kp (HP69_8.out.bel (balloc W69 (.cells (rep 0 0) 31)))
                       have HNE := kp (Nat.ne_of_lt HP69_8.out.lt)
                       clear ha HA69 HP69_8 
                       generalize W69.heap.size = bb70 at *
                       generalize W69.alloc (.cells (rep 0 0) 31) = W70 at *
                       have X := kp (ap_end HA70.out HP70_8.out HP70_9.out HNE.out (ro st2 se2 D67 E67) (ro st1 se1 D69 E69))
                       refine rd1 (i := 10) (by kernel_rfl) rfl (fun K hK => ?_)
                       rw [if_pos (by rfl)]
                       refine wp_store_row 31 _ _ rfl bb65 (ro st2 se2 D67 E67) rfl rfl 31 _ HP70_8.out.box (by kernel_rfl) rfl (ro1 _ _ _ _) ?_
                       refine hK.out _ _ (HSP.out _ X.out.2.1.o) (fun hS => ?_)
                       clear hK K
                       try simp only [Act.put,List.getElem_toArray,List.getElem_cons_succ,List.getElem_cons_zero,List.setIfInBounds_toArray,List.set_cons_zero,List.set_cons_succ]
                       refine rd1 (i := 11) (by kernel_rfl) rfl (fun K hK => ?_)
                       rw [if_pos (by rfl)]
                       refine wp_store_row 31 _ _ rfl bb70 (ro st1 se1 D69 E69) rfl rfl 31 _ X.out.1 (by kernel_rfl) rfl (ro1 _ _ _ _) ?_
                       refine hK.out _ _ (HSP.out _ X.out.2.2.1.o) (fun hS => ?_)
                       clear hK K
                       try simp only [Act.put,List.getElem_toArray,List.getElem_cons_succ,List.getElem_cons_zero,List.setIfInBounds_toArray,List.set_cons_zero,List.set_cons_succ]
                       refine wpAnyH_done (by kernel_rfl) ?_ _
                       go_wp2_with (fail)
                       go_meet
                       exact ⟨bb65, bb70, D67, E67, D69, E69, rfl, rfl, X.out.2.2.2.1, X.out.2.2.2.2, HR67.out, HR69.out, X.out.2.2.1.u, HWO.out _ X.out.2.2.1.o, X.out.2.2.1.b⟩
                    refine arn rfl (fun K hK => ?_)
                    have ha := fun o => HA68.out.bel (balloc W68 o)
                    go_simp
                    refine hK.out _ _ (HSP.out _ (ha _).o) (fun hS => ?_)
                    clear hK K
                    try simp only [Act.put,List.getElem_toArray,List.getElem_cons_succ,List.getElem_cons_zero,List.setIfInBounds_toArray,List.set_cons_zero,List.set_cons_succ]
                    clear hS
                    change wpAnyH _ _ _ _ _ _ _ _ (W68.alloc (.cells (rep 0 0) 31))
                    have HA71 := kp (ha (.cells (rep 0 0) 31))
                    have HP71_9 := kp (Bp.new HA68.out)
                    have HP71_8 := kp (HP68_8.out.bel (balloc W68 (.cells (rep 0 0) 31)))
                    have HNE := kp (Nat.ne_of_lt HP68_8.out.lt)
                    have HV71 := kp (HV68.out.below (balloc W68 (.cells (rep 0 0) 31)))
                    clear ha HA68 HP68_8 HV68
                    generalize W68.heap.size = bb71 at *
                    generalize W68.alloc (.cells (rep 0 0) 31) = W71 at *
                    refine rd1 (i := 7) (by kernel_rfl) rfl (fun K hK => ?_)
                    go_simp
                    refine (HC3.out _ _ HA71.out.u HV71.out).mono ?_
                    rintro e W72 ⟨dvr, rfl, ho, hu, hf⟩
                    have HR72 := kp (rd0 ho)
                    obtain ⟨D72, E72, rfl, -, -⟩ := Wd.own_form ho
                    have HA72 := kp (HA71.out.do_ HGW2.out hu hf)
                    have HP72_9 := kp (HP71_9.out.do_ HA71.out.lt hf)
                    have HP72_8 := kp (HP71_8.out.do_ HA71.out.lt hf)
                    clear ho hu hf HA71 HV71 HP71_9 HP71_8
                    go_wp2_with (fail)
                    refine hK.out _ _ (HSP.out _ HA72.out.o) (fun hS => ?_)
                    clear hK K
                    try simp only [Act.put,List.getElem_toArray,List.getElem_cons_succ,List.getElem_cons_zero,List.setIfInBounds_toArray,List.set_cons_zero,List.set_cons_succ]
                    clear hS
                    have X := kp (ap_end HA72.out HP72_8.out HP72_9.out HNE.out (ro st2 se2 D67 E67) (ro st1 se1 D72 E72))
                    refine rd1 (i := 10) (by kernel_rfl) rfl (fun K hK => ?_)
                    rw [if_pos (by rfl)]
                    refine wp_store_row 31 _ _ rfl bb65 (ro st2 se2 D67 E67) rfl rfl 31 _ HP72_8.out.box (by kernel_rfl) rfl (ro1 _ _ _ _) ?_
                    refine hK.out _ _ (HSP.out _ X.out.2.1.o) (fun hS => ?_)
                    clear hK K
                    try simp only [Act.put,List.getElem_toArray,List.getElem_cons_succ,List.getElem_cons_zero,List.setIfInBounds_toArray,List.set_cons_zero,List.set_cons_succ]
                    refine rd1 (i := 11) (by kernel_rfl) rfl (fun K hK => ?_)
                    rw [if_pos (by rfl)]
                    refine wp_store_row 31 _ _ rfl bb71 (ro st1 se1 D72 E72) rfl rfl 31 _ X.out.1 (by kernel_rfl) rfl (ro1 _ _ _ _) ?_
                    refine hK.out _ _ (HSP.out _ X.out.2.2.1.o) (fun hS => ?_)
                    clear hK K
                    try simp only [Act.put,List.getElem_toArray,List.getElem_cons_succ,List.getElem_cons_zero,List.setIfInBounds_toArray,List.set_cons_zero,List.set_cons_succ]
                    refine wpAnyH_done (by kernel_rfl) ?_ _
                    go_wp2_with (fail)
                    go_meet
                    exact ⟨bb65, bb71, D67, E67, D72, E72, rfl, rfl, X.out.2.2.2.1, X.out.2.2.2.2, HR67.out, HR72.out, X.out.2.2.1.u, HWO.out _ X.out.2.2.1.o, X.out.2.2.1.b⟩
                 refine arn rfl (fun K hK => ?_)
                 have ha := fun o => HA67.out.bel (balloc W67 o)
                 go_simp
                 refine hK.out _ _ (HSP.out _ (ha _).o) (fun hS => ?_)
                 clear hK K
                 try simp only [Act.put,List.getElem_toArray,List.getElem_cons_succ,List.getElem_cons_zero,List.setIfInBounds_toArray,List.set_cons_zero,List.set_cons_succ]
                 clear hS
                 change wpAnyH _ _ _ _ _ _ _ _ (W67.alloc (.cells (rep 0 0) 31))
                 have HA73 := kp (ha (.cells (rep 0 0) 31))
                 have HP73_9 := kp (Bp.new HA67.out)
                 have HP73_8 := kp (HP67_8.out.bel (balloc W67 (.cells (rep 0 0) 31)))
                 have HNE := kp (Nat.ne_of_lt HP67_8.out.lt)
                 clear ha HA67 HP67_8 
                 generalize W67.heap.size = bb73 at *
                 generalize W67.alloc (.cells (rep 0 0) 31) = W73 at *
                 refine rd1 (i := 6) (by kernel_rfl) rfl (fun K hK => ?_)
                 go_simp
                 refine (Wd.own_any (wcmd p n1 x1) (.slice A1 n1 c1) W73 (H1.out.below HA73.out.b) HL1.out).mono ?_
                 rintro e W74 ⟨ov74, rfl, ho, hb⟩
                 have HA74 := kp (HA73.out.bel hb)
                 have HV74 : Hid (Wd.Secs W74 ov74 (wcmd p n1 x1)) := kp (Wd.Own.secs ho)
                 have HP74_9 := kp (HP73_9.out.bel hb)
                 have HP74_8 := kp (HP73_8.out.bel hb)
                 clear ho hb HA73 HP73_9 HP73_8
                 go_wp2_with (fail)
                 refine hK.out _ _ (HSP.out _ HA74.out.o) (fun hS => ?_)
                 clear hK K
                 try simp only [Act.put,List.getElem_toArray,List.getElem_cons_succ,List.getElem_cons_zero,List.setIfInBounds_toArray,List.set_cons_zero,List.set_cons_succ]
                 clear hS
                 refine rd1 (i := 7) (by kernel_rfl) rfl (fun K hK => ?_)
                 go_simp
                 refine (HC3.out _ _ HA74.out.u HV74.out).mono ?_
                 rintro e W75 ⟨dvr, rfl, ho, hu, hf⟩
                 have HR75 := kp (rd0 ho)
                 obtain ⟨D75, E75, rfl, -, -⟩ := Wd.own_form ho
                 have HA75 := kp (HA74.out.do_ HGW2.out hu hf)
                 have HP75_9 := kp (HP74_9.out.do_ HA74.out.lt hf)
                 have HP75_8 := kp (HP74_8.out.do_ HA74.out.lt hf)
                 clear ho hu hf HA74 HV74 HP74_9 HP74_8
                 go_wp2_with (fail)
                 refine hK.out _ _ (HSP.out _ HA75.out.o) (fun hS => ?_)
                 clear hK K
                 try simp only [Act.put,List.getElem_toArray,List.getElem_cons_succ,List.getElem_cons_zero,List.setIfInBounds_toArray,List.set_cons_zero,List.set_cons_succ]
                 clear hS
                 have X := kp (ap_end HA75.out HP75_8.out HP75_9.out HNE.out (ro st2 se2 D67 E67) (ro st1 se1 D75 E75))
                 refine rd1 (i := 10) (by kernel_rfl) rfl (fun K hK => ?_)
                 rw [if_pos (by rfl)]
                 refine wp_store_row 31 _ _ rfl bb65 (ro st2 se2 D67 E67) rfl rfl 31 _ HP75_8.out.box (by kernel_rfl) rfl (ro1 _ _ _ _) ?_
                 refine hK.out _ _ (HSP.out _ X.out.2.1.o) (fun hS => ?_)
                 clear hK K
                 try simp only [Act.put,List.getElem_toArray,List.getElem_cons_succ,List.getElem_cons_zero,List.setIfInBounds_toArray,List.set_cons_zero,List.set_cons_succ]
                 refine rd1 (i := 11) (by kernel_rfl) rfl (fun K hK => ?_)
                 rw [if_pos (by rfl)]
                 refine wp_store_row 31 _ _ rfl bb73 (ro st1 se1 D75 E75) rfl rfl 31 _ X.out.1 (by kernel_rfl) rfl (ro1 _ _ _ _) ?_
                 refine hK.out _ _ (HSP.out _ X.out.2.2.1.o) (fun hS => ?_)
                 clear hK K
                 try simp only [Act.put,List.getElem_toArray,List.getElem_cons_succ,List.getElem_cons_zero,List.setIfInBounds_toArray,List.set_cons_zero,List.set_cons_succ]
                 refine wpAnyH_done (by kernel_rfl) ?_ _
                 go_wp2_with (fail)
                 go_meet
                 exact ⟨bb65, bb73, D67, E67, D75, E75, rfl, rfl, X.out.2.2.2.1, X.out.2.2.2.2, HR67.out, HR75.out, X.out.2.2.1.u, HWO.out _ X.out.2.2.1.o, X.out.2.2.1.b⟩
              refine arn rfl (fun K hK => ?_)
              have ha := fun o => HA66.out.bel (balloc W66 o)
              go_simp
              refine hK.out _ _ (HSP.out _ (ha _).o) (fun hS => ?_)
              clear hK K
              try simp only [Act.put,List.getElem_toArray,List.getElem_cons_succ,List.getElem_cons_zero,List.setIfInBounds_toArray,List.set_cons_zero,List.set_cons_succ]
              clear hS
              change wpAnyH _ _ _ _ _ _ _ _ (W66.alloc (.cells (rep 0 0) 31))
              have HA76 := kp (ha (.cells (rep 0 0) 31))
              have HP76_9 := kp (Bp.new HA66.out)
              have HP76_8 := kp (HP66_8.out.bel (balloc W66 (.cells (rep 0 0) 31)))
              have HNE := kp (Nat.ne_of_lt HP66_8.out.lt)
              have HV76 := kp (HV66.out.below (balloc W66 (.cells (rep 0 0) 31)))
              clear ha HA66 HP66_8 HV66
              generalize W66.heap.size = bb76 at *
              generalize W66.alloc (.cells (rep 0 0) 31) = W76 at *
              refine rd1 (i := 3) (by kernel_rfl) rfl (fun K hK => ?_)
              go_simp
              refine (HC1.out _ _ HA76.out.u HV76.out).mono ?_
              rintro e W77 ⟨dvr, rfl, ho, hu, hf⟩
              have HR77 := kp (rd0 ho)
              obtain ⟨D77, E77, rfl, -, -⟩ := Wd.own_form ho
              have HA77 := kp (HA76.out.do_ HGW2.out hu hf)
              have HP77_9 := kp (HP76_9.out.do_ HA76.out.lt hf)
              have HP77_8 := kp (HP76_8.out.do_ HA76.out.lt hf)
              clear ho hu hf HA76 HV76 HP76_9 HP76_8
              go_wp2_with (fail)
              refine hK.out _ _ (HSP.out _ HA77.out.o) (fun hS => ?_)
              clear hK K
              try simp only [Act.put,List.getElem_toArray,List.getElem_cons_succ,List.getElem_cons_zero,List.setIfInBounds_toArray,List.set_cons_zero,List.set_cons_succ]
              clear hS
              refine rd1 (i := 6) (by kernel_rfl) rfl (fun K hK => ?_)
              go_simp
              refine (Wd.own_any (wcmd p n1 x1) (.slice A1 n1 c1) W77 (H1.out.below HA77.out.b) HL1.out).mono ?_
              rintro e W78 ⟨ov78, rfl, ho, hb⟩
              have HA78 := kp (HA77.out.bel hb)
              have HV78 : Hid (Wd.Secs W78 ov78 (wcmd p n1 x1)) := kp (Wd.Own.secs ho)
              have HP78_9 := kp (HP77_9.out.bel hb)
              have HP78_8 := kp (HP77_8.out.bel hb)
              clear ho hb HA77 HP77_9 HP77_8
              go_wp2_with (fail)
              refine hK.out _ _ (HSP.out _ HA78.out.o) (fun hS => ?_)
              clear hK K
              try simp only [Act.put,List.getElem_toArray,List.getElem_cons_succ,List.getElem_cons_zero,List.setIfInBounds_toArray,List.set_cons_zero,List.set_cons_succ]
              clear hS
              refine rd1 (i := 7) (by kernel_rfl) rfl (fun K hK => ?_)
              go_simp
              refine (HC3.out _ _ HA78.out.u HV78.out).mono ?_
              rintro e W79 ⟨dvr, rfl, ho, hu, hf⟩
              have HR79 := kp (rd0 ho)
              obtain ⟨D79, E79, rfl, -, -⟩ := Wd.own_form ho
              have HA79 := kp (HA78.out.do_ HGW2.out hu hf)
              have HP79_9 := kp (HP78_9.out.do_ HA78.out.lt hf)
              have HP79_8 := kp (HP78_8.out.do_ HA78.out.lt hf)
              clear ho hu hf HA78 HV78 HP78_9 HP78_8
              go_wp2_with (fail)
              refine hK.out _ _ (HSP.out _ HA79.out.o) (fun hS => ?_)
              clear hK K
              try simp only [Act.put,List.getElem_toArray,List.getElem_cons_succ,List.getElem_cons_zero,List.setIfInBounds_toArray,List.set_cons_zero,List.set_cons_succ]
              clear hS
              have X := kp (ap_end HA79.out HP79_8.out HP79_9.out HNE.out (ro st2 se2 D77 E77) (ro st1 se1 D79 E79))
              refine rd1 (i := 10) (by kernel_rfl) rfl (fun K hK => ?_)
              rw [if_pos (by rfl)]
              refine wp_store_row 31 _ _ rfl bb65 (ro st2 se2 D77 E77) rfl rfl 31 _ HP79_8.out.box (by kernel_rfl) rfl (ro1 _ _ _ _) ?_
              refine hK.out _ _ (HSP.out _ X.out.2.1.o) (fun hS => ?_)
              clear hK K
              try simp only [Act.put,List.getElem_toArray,List.getElem_cons_succ,List.getElem_cons_zero,List.setIfInBounds_toArray,List.set_cons_zero,List.set_cons_succ]
              refine rd1 (i := 11) (by kernel_rfl) rfl (fun K hK => ?_)
              rw [if_pos (by rfl)]
              refine wp_store_row 31 _ _ rfl bb76 (ro st1 se1 D79 E79) rfl rfl 31 _ X.out.1 (by kernel_rfl) rfl (ro1 _ _ _ _) ?_
              refine hK.out _ _ (HSP.out _ X.out.2.2.1.o) (fun hS => ?_)
              clear hK K
              try simp only [Act.put,List.getElem_toArray,List.getElem_cons_succ,List.getElem_cons_zero,List.setIfInBounds_toArray,List.set_cons_zero,List.set_cons_succ]
              refine wpAnyH_done (by kernel_rfl) ?_ _
              go_wp2_with (fail)
              go_meet
              exact ⟨bb65, bb76, D77, E77, D79, E79, rfl, rfl, X.out.2.2.2.1, X.out.2.2.2.2, HR77.out, HR79.out, X.out.2.2.1.u, HWO.out _ X.out.2.2.1.o, X.out.2.2.1.b⟩
           refine arn rfl (fun K hK => ?_)
           have ha := fun o => HA65.out.bel (balloc W65 o)
           go_simp
           refine hK.out _ _ (HSP.out _ (ha _).o) (fun hS => ?_)
           clear hK K
           try simp only [Act.put,List.getElem_toArray,List.getElem_cons_succ,List.getElem_cons_zero,List.setIfInBounds_toArray,List.set_cons_zero,List.set_cons_succ]
           clear hS
           change wpAnyH _ _ _ _ _ _ _ _ (W65.alloc (.cells (rep 0 0) 31))
           have HA80 := kp (ha (.cells (rep 0 0) 31))
           have HP80_9 := kp (Bp.new HA65.out)
           have HP80_8 := kp (HP65_8.out.bel (balloc W65 (.cells (rep 0 0) 31)))
           have HNE := kp (Nat.ne_of_lt HP65_8.out.lt)
           clear ha HA65 HP65_8 
           generalize W65.heap.size = bb80 at *
           generalize W65.alloc (.cells (rep 0 0) 31) = W80 at *
           refine rd1 (i := 2) (by kernel_rfl) rfl (fun K hK => ?_)
           go_simp
           refine (Wd.own_any (wcmd r n2 x2) (.slice A2 n2 c2) W80 (H2.out.below HA80.out.b) HL2.out).mono ?_
           rintro e W81 ⟨ov81, rfl, ho, hb⟩
           have HA81 := kp (HA80.out.bel hb)
           have HV81 : Hid (Wd.Secs W81 ov81 (wcmd r n2 x2)) := kp (Wd.Own.secs ho)
           have HP81_9 := kp (HP80_9.out.bel hb)
           have HP81_8 := kp (HP80_8.out.bel hb)
           clear ho hb HA80 HP80_9 HP80_8
           go_wp2_with (fail)
           refine hK.out _ _ (HSP.out _ HA81.out.o) (fun hS => ?_)
           clear hK K
           try simp only [Act.put,List.getElem_toArray,List.getElem_cons_succ,List.getElem_cons_zero,List.setIfInBounds_toArray,List.set_cons_zero,List.set_cons_succ]
           clear hS
           refine rd1 (i := 3) (by kernel_rfl) rfl (fun K hK => ?_)
           go_simp
           refine (HC1.out _ _ HA81.out.u HV81.out).mono ?_
           rintro e W82 ⟨dvr, rfl, ho, hu, hf⟩
           have HR82 := kp (rd0 ho)
           obtain ⟨D82, E82, rfl, -, -⟩ := Wd.own_form ho
           have HA82 := kp (HA81.out.do_ HGW2.out hu hf)
           have HP82_9 := kp (HP81_9.out.do_ HA81.out.lt hf)
           have HP82_8 := kp (HP81_8.out.do_ HA81.out.lt hf)
           clear ho hu hf HA81 HV81 HP81_9 HP81_8
           go_wp2_with (fail)
           refine hK.out _ _ (HSP.out _ HA82.out.o) (fun hS => ?_)
           clear hK K
           try simp only [Act.put,List.getElem_toArray,List.getElem_cons_succ,List.getElem_cons_zero,List.setIfInBounds_toArray,List.set_cons_zero,List.set_cons_succ]
           clear hS
           refine rd1 (i := 6) (by kernel_rfl) rfl (fun K hK => ?_)
           go_simp
           refine (Wd.own_any (wcmd p n1 x1) (.slice A1 n1 c1) W82 (H1.out.below HA82.out.b) HL1.out).mono ?_
           rintro e W83 ⟨ov83, rfl, ho, hb⟩
           have HA83 := kp (HA82.out.bel hb)
           have HV83 : Hid (Wd.Secs W83 ov83 (wcmd p n1 x1)) := kp (Wd.Own.secs ho)
           have HP83_9 := kp (HP82_9.out.bel hb)
           have HP83_8 := kp (HP82_8.out.bel hb)
           clear ho hb HA82 HP82_9 HP82_8
           go_wp2_with (fail)
           refine hK.out _ _ (HSP.out _ HA83.out.o) (fun hS => ?_)
           clear hK K
           try simp only [Act.put,List.getElem_toArray,List.getElem_cons_succ,List.getElem_cons_zero,List.setIfInBounds_toArray,List.set_cons_zero,List.set_cons_succ]
           clear hS
           refine rd1 (i := 7) (by kernel_rfl) rfl (fun K hK => ?_)
           go_simp
           refine (HC3.out _ _ HA83.out.u HV83.out).mono ?_
           rintro e W84 ⟨dvr, rfl, ho, hu, hf⟩
           have HR84 := kp (rd0 ho)
           obtain ⟨D84, E84, rfl, -, -⟩ := Wd.own_form ho
           have HA84 := kp (HA83.out.do_ HGW2.out hu hf)
           have HP84_9 := kp (HP83_9.out.do_ HA83.out.lt hf)
           have HP84_8 := kp (HP83_8.out.do_ HA83.out.lt hf)
           clear ho hu hf HA83 HV83 HP83_9 HP83_8
           go_wp2_with (fail)
           refine hK.out _ _ (HSP.out _ HA84.out.o) (fun hS => ?_)
           clear hK K
           try simp only [Act.put,List.getElem_toArray,List.getElem_cons_succ,List.getElem_cons_zero,List.setIfInBounds_toArray,List.set_cons_zero,List.set_cons_succ]
           clear hS
           have X := kp (ap_end HA84.out HP84_8.out HP84_9.out HNE.out (ro st2 se2 D82 E82) (ro st1 se1 D84 E84))
           refine rd1 (i := 10) (by kernel_rfl) rfl (fun K hK => ?_)
           rw [if_pos (by rfl)]
           refine wp_store_row 31 _ _ rfl bb65 (ro st2 se2 D82 E82) rfl rfl 31 _ HP84_8.out.box (by kernel_rfl) rfl (ro1 _ _ _ _) ?_
           refine hK.out _ _ (HSP.out _ X.out.2.1.o) (fun hS => ?_)
           clear hK K
           try simp only [Act.put,List.getElem_toArray,List.getElem_cons_succ,List.getElem_cons_zero,List.setIfInBounds_toArray,List.set_cons_zero,List.set_cons_succ]
           refine rd1 (i := 11) (by kernel_rfl) rfl (fun K hK => ?_)
           rw [if_pos (by rfl)]
           refine wp_store_row 31 _ _ rfl bb80 (ro st1 se1 D84 E84) rfl rfl 31 _ X.out.1 (by kernel_rfl) rfl (ro1 _ _ _ _) ?_
           refine hK.out _ _ (HSP.out _ X.out.2.2.1.o) (fun hS => ?_)
           clear hK K
           try simp only [Act.put,List.getElem_toArray,List.getElem_cons_succ,List.getElem_cons_zero,List.setIfInBounds_toArray,List.set_cons_zero,List.set_cons_succ]
           refine wpAnyH_done (by kernel_rfl) ?_ _
           go_wp2_with (fail)
           go_meet
           exact ⟨bb65, bb80, D82, E82, D84, E84, rfl, rfl, X.out.2.2.2.1, X.out.2.2.2.2, HR82.out, HR84.out, X.out.2.2.1.u, HWO.out _ X.out.2.2.1.o, X.out.2.2.1.b⟩
        refine arn rfl (fun K hK => ?_)
        have ha := fun o => HA0.out.bel (balloc wS o)
        go_simp
        refine hK.out _ _ (HSP.out _ (ha _).o) (fun hS => ?_)
        clear hK K
        try simp only [Act.put,List.getElem_toArray,List.getElem_cons_succ,List.getElem_cons_zero,List.setIfInBounds_toArray,List.set_cons_zero,List.set_cons_succ]
        clear hS
        change wpAnyH _ _ _ _ _ _ _ _ (wS.alloc (.cells (rep 0 0) 31))
        have HA85 := kp (ha (.cells (rep 0 0) 31))
        have HP85_9 := kp (Bp.new HA0.out)
        clear ha HA0  
        generalize wS.heap.size = bb85 at *
        generalize wS.alloc (.cells (rep 0 0) 31) = W85 at *
        refine rdn [2, 8] (by kernel_rfl) (by simp) ?_
        refine arc rfl (fun K hK => ?_) ?_
        · as_aux_lemma =>
           go_simp
           refine (Wd.own_any (wcmd r n2 x2) (.slice A2 n2 c2) W85 (H2.out.below HA85.out.b) HL2.out).mono ?_
           rintro e W86 ⟨ov86, rfl, ho, hb⟩
           have HA86 := kp (HA85.out.bel hb)
           have HV86 : Hid (Wd.Secs W86 ov86 (wcmd r n2 x2)) := kp (Wd.Own.secs ho)
           have HP86_9 := kp (HP85_9.out.bel hb)
           clear ho hb HA85 HP85_9
           go_wp2_with (fail)
           refine hK.out _ _ (HSP.out _ HA86.out.o) (fun hS => ?_)
           clear hK K
           try simp only [Act.put,List.getElem_toArray,List.getElem_cons_succ,List.getElem_cons_zero,List.setIfInBounds_toArray,List.set_cons_zero,List.set_cons_succ]
           clear hS
           refine rdn [3, 8] (by kernel_rfl) (by simp) ?_
           refine arc rfl (fun K hK => ?_) ?_
           · as_aux_lemma =>
              go_simp
              refine (HC1.out _ _ HA86.out.u HV86.out).mono ?_
              rintro e W87 ⟨dvr, rfl, ho, hu, hf⟩
              have HR87 := kp (rd0 ho)
              obtain ⟨D87, E87, rfl, -, -⟩ := Wd.own_form ho
              have HA87 := kp (HA86.out.do_ HGW2.out hu hf)
              have HP87_9 := kp (HP86_9.out.do_ HA86.out.lt hf)
              clear ho hu hf HA86 HV86 HP86_9
              go_wp2_with (fail)
              refine hK.out _ _ (HSP.out _ HA87.out.o) (fun hS => ?_)
              clear hK K
              try simp only [Act.put,List.getElem_toArray,List.getElem_cons_succ,List.getElem_cons_zero,List.setIfInBounds_toArray,List.set_cons_zero,List.set_cons_succ]
              clear hS
              refine rdn [6, 8] (by kernel_rfl) (by simp) ?_
              refine arc rfl (fun K hK => ?_) ?_
              · as_aux_lemma =>
                 go_simp
                 refine (Wd.own_any (wcmd p n1 x1) (.slice A1 n1 c1) W87 (H1.out.below HA87.out.b) HL1.out).mono ?_
                 rintro e W88 ⟨ov88, rfl, ho, hb⟩
                 have HA88 := kp (HA87.out.bel hb)
                 have HV88 : Hid (Wd.Secs W88 ov88 (wcmd p n1 x1)) := kp (Wd.Own.secs ho)
                 have HP88_9 := kp (HP87_9.out.bel hb)
                 clear ho hb HA87 HP87_9
                 go_wp2_with (fail)
                 refine hK.out _ _ (HSP.out _ HA88.out.o) (fun hS => ?_)
                 clear hK K
                 try simp only [Act.put,List.getElem_toArray,List.getElem_cons_succ,List.getElem_cons_zero,List.setIfInBounds_toArray,List.set_cons_zero,List.set_cons_succ]
                 clear hS
                 refine rdn [7, 8] (by kernel_rfl) (by simp) ?_
                 refine arc rfl (fun K hK => ?_) ?_
                 · as_aux_lemma =>
                    go_simp
                    refine (HC3.out _ _ HA88.out.u HV88.out).mono ?_
                    rintro e W89 ⟨dvr, rfl, ho, hu, hf⟩
                    have HR89 := kp (rd0 ho)
                    obtain ⟨D89, E89, rfl, -, -⟩ := Wd.own_form ho
                    have HA89 := kp (HA88.out.do_ HGW2.out hu hf)
                    have HP89_9 := kp (HP88_9.out.do_ HA88.out.lt hf)
                    clear ho hu hf HA88 HV88 HP88_9
                    go_wp2_with (fail)
                    refine hK.out _ _ (HSP.out _ HA89.out.o) (fun hS => ?_)
                    clear hK K
                    try simp only [Act.put,List.getElem_toArray,List.getElem_cons_succ,List.getElem_cons_zero,List.setIfInBounds_toArray,List.set_cons_zero,List.set_cons_succ]
                    clear hS
                    refine rd1 (i := 8) (by kernel_rfl) rfl (fun K hK => ?_)
                    have ha := fun o => HA89.out.bel (balloc W89 o)
                    go_simp
                    refine hK.out _ _ (HSP.out _ (ha _).o) (fun hS => ?_)
                    clear hK K
                    try simp only [Act.put,List.getElem_toArray,List.getElem_cons_succ,List.getElem_cons_zero,List.setIfInBounds_toArray,List.set_cons_zero,List.set_cons_succ]
                    clear hS
                    change wpAnyH _ _ _ _ _ _ _ _ (W89.alloc (.cells (rep 0 0) 31))
                    have HA90 := kp (ha (.cells (rep 0 0) 31))
                    have HP90_8 := kp (Bp.new HA89.out)
                    have HP90_9 := kp (HP89_9.out.bel (balloc W89 (.cells (rep 0 0) 31)))
                    have HNE := kp (Nat.ne_of_lt HP89_9.out.lt)
                    clear ha HA89 HP89_9 
                    generalize W89.heap.size = bb90 at *
                    generalize W89.alloc (.cells (rep 0 0) 31) = W90 at *
                    have X := kp (ap_end HA90.out HP90_8.out HP90_9.out HNE.out.symm (ro st2 se2 D87 E87) (ro st1 se1 D89 E89))
                    refine rd1 (i := 10) (by kernel_rfl) rfl (fun K hK => ?_)
                    rw [if_pos (by rfl)]
                    refine wp_store_row 31 _ _ rfl bb90 (ro st2 se2 D87 E87) rfl rfl 31 _ HP90_8.out.box (by kernel_rfl) rfl (ro1 _ _ _ _) ?_
                    refine hK.out _ _ (HSP.out _ X.out.2.1.o) (fun hS => ?_)
                    clear hK K
                    try simp only [Act.put,List.getElem_toArray,List.getElem_cons_succ,List.getElem_cons_zero,List.setIfInBounds_toArray,List.set_cons_zero,List.set_cons_succ]
                    refine rd1 (i := 11) (by kernel_rfl) rfl (fun K hK => ?_)
                    rw [if_pos (by rfl)]
                    refine wp_store_row 31 _ _ rfl bb85 (ro st1 se1 D89 E89) rfl rfl 31 _ X.out.1 (by kernel_rfl) rfl (ro1 _ _ _ _) ?_
                    refine hK.out _ _ (HSP.out _ X.out.2.2.1.o) (fun hS => ?_)
                    clear hK K
                    try simp only [Act.put,List.getElem_toArray,List.getElem_cons_succ,List.getElem_cons_zero,List.setIfInBounds_toArray,List.set_cons_zero,List.set_cons_succ]
                    refine wpAnyH_done (by kernel_rfl) ?_ _
                    go_wp2_with (fail)
                    go_meet
                    exact ⟨bb90, bb85, D87, E87, D89, E89, rfl, rfl, X.out.2.2.2.1, X.out.2.2.2.2, HR87.out, HR89.out, X.out.2.2.1.u, HWO.out _ X.out.2.2.1.o, X.out.2.2.1.b⟩
                 refine arn rfl (fun K hK => ?_)
                 have ha := fun o => HA88.out.bel (balloc W88 o)
                 go_simp
                 refine hK.out _ _ (HSP.out _ (ha _).o) (fun hS => ?_)
                 clear hK K
                 try simp only [Act.put,List.getElem_toArray,List.getElem_cons_succ,List.getElem_cons_zero,List.setIfInBounds_toArray,List.set_cons_zero,List.set_cons_succ]
                 clear hS
                 change wpAnyH _ _ _ _ _ _ _ _ (W88.alloc (.cells (rep 0 0) 31))
                 have HA91 := kp (ha (.cells (rep 0 0) 31))
                 have HP91_8 := kp (Bp.new HA88.out)
                 have HP91_9 := kp (HP88_9.out.bel (balloc W88 (.cells (rep 0 0) 31)))
                 have HNE := kp (Nat.ne_of_lt HP88_9.out.lt)
                 have HV91 := kp (HV88.out.below (balloc W88 (.cells (rep 0 0) 31)))
                 clear ha HA88 HP88_9 HV88
                 generalize W88.heap.size = bb91 at *
                 generalize W88.alloc (.cells (rep 0 0) 31) = W91 at *
                 refine rd1 (i := 7) (by kernel_rfl) rfl (fun K hK => ?_)
                 go_simp
                 refine (HC3.out _ _ HA91.out.u HV91.out).mono ?_
                 rintro e W92 ⟨dvr, rfl, ho, hu, hf⟩
                 have HR92 := kp (rd0 ho)
                 obtain ⟨D92, E92, rfl, -, -⟩ := Wd.own_form ho
                 have HA92 := kp (HA91.out.do_ HGW2.out hu hf)
                 have HP92_8 := kp (HP91_8.out.do_ HA91.out.lt hf)
                 have HP92_9 := kp (HP91_9.out.do_ HA91.out.lt hf)
                 clear ho hu hf HA91 HV91 HP91_8 HP91_9
                 go_wp2_with (fail)
                 refine hK.out _ _ (HSP.out _ HA92.out.o) (fun hS => ?_)
                 clear hK K
                 try simp only [Act.put,List.getElem_toArray,List.getElem_cons_succ,List.getElem_cons_zero,List.setIfInBounds_toArray,List.set_cons_zero,List.set_cons_succ]
                 clear hS
                 have X := kp (ap_end HA92.out HP92_8.out HP92_9.out HNE.out.symm (ro st2 se2 D87 E87) (ro st1 se1 D92 E92))
                 refine rd1 (i := 10) (by kernel_rfl) rfl (fun K hK => ?_)
                 rw [if_pos (by rfl)]
                 refine wp_store_row 31 _ _ rfl bb91 (ro st2 se2 D87 E87) rfl rfl 31 _ HP92_8.out.box (by kernel_rfl) rfl (ro1 _ _ _ _) ?_
                 refine hK.out _ _ (HSP.out _ X.out.2.1.o) (fun hS => ?_)
                 clear hK K
                 try simp only [Act.put,List.getElem_toArray,List.getElem_cons_succ,List.getElem_cons_zero,List.setIfInBounds_toArray,List.set_cons_zero,List.set_cons_succ]
                 refine rd1 (i := 11) (by kernel_rfl) rfl (fun K hK => ?_)
                 rw [if_pos (by rfl)]
                 refine wp_store_row 31 _ _ rfl bb85 (ro st1 se1 D92 E92) rfl rfl 31 _ X.out.1 (by kernel_rfl) rfl (ro1 _ _ _ _) ?_
                 refine hK.out _ _ (HSP.out _ X.out.2.2.1.o) (fun hS => ?_)
                 clear hK K
                 try simp only [Act.put,List.getElem_toArray,List.getElem_cons_succ,List.getElem_cons_zero,List.setIfInBounds_toArray,List.set_cons_zero,List.set_cons_succ]
                 refine wpAnyH_done (by kernel_rfl) ?_ _
                 go_wp2_with (fail)
                 go_meet
                 exact ⟨bb91, bb85, D87, E87, D92, E92, rfl, rfl, X.out.2.2.2.1, X.out.2.2.2.2, HR87.out, HR92.out, X.out.2.2.1.u, HWO.out _ X.out.2.2.1.o, X.out.2.2.1.b⟩
              refine arn rfl (fun K hK => ?_)
              have ha := fun o => HA87.out.bel (balloc W87 o)
              go_simp
              refine hK.out _ _ (HSP.out _ (ha _).o) (fun hS => ?_)
              clear hK K
              try simp only [Act.put,List.getElem_toArray,List.getElem_cons_succ,List.getElem_cons_zero,List.setIfInBounds_toArray,List.set_cons_zero,List.set_cons_succ]
              clear hS
              change wpAnyH _ _ _ _ _ _ _ _ (W87.alloc (.cells (rep 0 0) 31))
              have HA93 := kp (ha (.cells (rep 0 0) 31))
              have HP93_8 := kp (Bp.new HA87.out)
              have HP93_9 := kp (HP87_9.out.bel (balloc W87 (.cells (rep 0 0) 31)))
              have HNE := kp (Nat.ne_of_lt HP87_9.out.lt)
              clear ha HA87 HP87_9 
              generalize W87.heap.size = bb93 at *
              generalize W87.alloc (.cells (rep 0 0) 31) = W93 at *
              refine rd1 (i := 6) (by kernel_rfl) rfl (fun K hK => ?_)
              go_simp
              refine (Wd.own_any (wcmd p n1 x1) (.slice A1 n1 c1) W93 (H1.out.below HA93.out.b) HL1.out).mono ?_
              rintro e W94 ⟨ov94, rfl, ho, hb⟩
              have HA94 := kp (HA93.out.bel hb)
              have HV94 : Hid (Wd.Secs W94 ov94 (wcmd p n1 x1)) := kp (Wd.Own.secs ho)
              have HP94_8 := kp (HP93_8.out.bel hb)
              have HP94_9 := kp (HP93_9.out.bel hb)
              clear ho hb HA93 HP93_8 HP93_9
              go_wp2_with (fail)
              refine hK.out _ _ (HSP.out _ HA94.out.o) (fun hS => ?_)
              clear hK K
              try simp only [Act.put,List.getElem_toArray,List.getElem_cons_succ,List.getElem_cons_zero,List.setIfInBounds_toArray,List.set_cons_zero,List.set_cons_succ]
              clear hS
              refine rd1 (i := 7) (by kernel_rfl) rfl (fun K hK => ?_)
              go_simp
              refine (HC3.out _ _ HA94.out.u HV94.out).mono ?_
              rintro e W95 ⟨dvr, rfl, ho, hu, hf⟩
              have HR95 := kp (rd0 ho)
              obtain ⟨D95, E95, rfl, -, -⟩ := Wd.own_form ho
              have HA95 := kp (HA94.out.do_ HGW2.out hu hf)
              have HP95_8 := kp (HP94_8.out.do_ HA94.out.lt hf)
              have HP95_9 := kp (HP94_9.out.do_ HA94.out.lt hf)
              clear ho hu hf HA94 HV94 HP94_8 HP94_9
              go_wp2_with (fail)
              refine hK.out _ _ (HSP.out _ HA95.out.o) (fun hS => ?_)
              clear hK K
              try simp only [Act.put,List.getElem_toArray,List.getElem_cons_succ,List.getElem_cons_zero,List.setIfInBounds_toArray,List.set_cons_zero,List.set_cons_succ]
              clear hS
              have X := kp (ap_end HA95.out HP95_8.out HP95_9.out HNE.out.symm (ro st2 se2 D87 E87) (ro st1 se1 D95 E95))
              refine rd1 (i := 10) (by kernel_rfl) rfl (fun K hK => ?_)
              rw [if_pos (by rfl)]
              refine wp_store_row 31 _ _ rfl bb93 (ro st2 se2 D87 E87) rfl rfl 31 _ HP95_8.out.box (by kernel_rfl) rfl (ro1 _ _ _ _) ?_
              refine hK.out _ _ (HSP.out _ X.out.2.1.o) (fun hS => ?_)
              clear hK K
              try simp only [Act.put,List.getElem_toArray,List.getElem_cons_succ,List.getElem_cons_zero,List.setIfInBounds_toArray,List.set_cons_zero,List.set_cons_succ]
              refine rd1 (i := 11) (by kernel_rfl) rfl (fun K hK => ?_)
              rw [if_pos (by rfl)]
              refine wp_store_row 31 _ _ rfl bb85 (ro st1 se1 D95 E95) rfl rfl 31 _ X.out.1 (by kernel_rfl) rfl (ro1 _ _ _ _) ?_
              refine hK.out _ _ (HSP.out _ X.out.2.2.1.o) (fun hS => ?_)
              clear hK K
              try simp only [Act.put,List.getElem_toArray,List.getElem_cons_succ,List.getElem_cons_zero,List.setIfInBounds_toArray,List.set_cons_zero,List.set_cons_succ]
              refine wpAnyH_done (by kernel_rfl) ?_ _
              go_wp2_with (fail)
              go_meet
              exact ⟨bb93, bb85, D87, E87, D95, E95, rfl, rfl, X.out.2.2.2.1, X.out.2.2.2.2, HR87.out, HR95.out, X.out.2.2.1.u, HWO.out _ X.out.2.2.1.o, X.out.2.2.1.b⟩
           refine arn rfl (fun K hK => ?_)
           have ha := fun o => HA86.out.bel (balloc W86 o)
           go_simp
           refine hK.out _ _ (HSP.out _ (ha _).o) (fun hS => ?_)
           clear hK K
           try simp only [Act.put,List.getElem_toArray,List.getElem_cons_succ,List.getElem_cons_zero,List.setIfInBounds_toArray,List.set_cons_zero,List.set_cons_succ]
           clear hS
           change wpAnyH _ _ _ _ _ _ _ _ (W86.alloc (.cells (rep 0 0) 31))
           have HA96 := kp (ha (.cells (rep 0 0) 31))
           have HP96_8 := kp (Bp.new HA86.out)
           have HP96_9 := kp (HP86_9.out.bel (balloc W86 (.cells (rep 0 0) 31)))
           have HNE := kp (Nat.ne_of_lt HP86_9.out.lt)
           have HV96 := kp (HV86.out.below (balloc W86 (.cells (rep 0 0) 31)))
           clear ha HA86 HP86_9 HV86
           generalize W86.heap.size = bb96 at *
           generalize W86.alloc (.cells (rep 0 0) 31) = W96 at *
           refine rd1 (i := 3) (by kernel_rfl) rfl (fun K hK => ?_)
           go_simp
           refine (HC1.out _ _ HA96.out.u HV96.out).mono ?_
           rintro e W97 ⟨dvr, rfl, ho, hu, hf⟩
           have HR97 := kp (rd0 ho)
           obtain ⟨D97, E97, rfl, -, -⟩ := Wd.own_form ho
           have HA97 := kp (HA96.out.do_ HGW2.out hu hf)
           have HP97_8 := kp (HP96_8.out.do_ HA96.out.lt hf)
           have HP97_9 := kp (HP96_9.out.do_ HA96.out.lt hf)
           clear ho hu hf HA96 HV96 HP96_8 HP96_9
           go_wp2_with (fail)
           refine hK.out _ _ (HSP.out _ HA97.out.o) (fun hS => ?_)
           clear hK K
           try simp only [Act.put,List.getElem_toArray,List.getElem_cons_succ,List.getElem_cons_zero,List.setIfInBounds_toArray,List.set_cons_zero,List.set_cons_succ]
           clear hS
           refine rd1 (i := 6) (by kernel_rfl) rfl (fun K hK => ?_)
           go_simp
           refine (Wd.own_any (wcmd p n1 x1) (.slice A1 n1 c1) W97 (H1.out.below HA97.out.b) HL1.out).mono ?_
           rintro e W98 ⟨ov98, rfl, ho, hb⟩
           have HA98 := kp (HA97.out.bel hb)
           have HV98 : Hid (Wd.Secs W98 ov98 (wcmd p n1 x1)) := kp (Wd.Own.secs ho)
           have HP98_8 := kp (HP97_8.out.bel hb)
           have HP98_9 := kp (HP97_9.out.bel hb)
           clear ho hb HA97 HP97_8 HP97_9
           go_wp2_with (fail)
           refine hK.out _ _ (HSP.out _ HA98.out.o) (fun hS => ?_)
           clear hK K
           try simp only [Act.put,List.getElem_toArray,List.getElem_cons_succ,List.getElem_cons_zero,List.setIfInBounds_toArray,List.set_cons_zero,List.set_cons_succ]
           clear hS
           refine rd1 (i := 7) (by kernel_rfl) rfl (fun K hK => ?_)
           go_simp
           refine (HC3.out _ _ HA98.out.u HV98.out).mono ?_
           rintro e W99 ⟨dvr, rfl, ho, hu, hf⟩
           have HR99 := kp (rd0 ho)
           obtain ⟨D99, E99, rfl, -, -⟩ := Wd.own_form ho
           have HA99 := kp (HA98.out.do_ HGW2.out hu hf)
           have HP99_8 := kp (HP98_8.out.do_ HA98.out.lt hf)
           have HP99_9 := kp (HP98_9.out.do_ HA98.out.lt hf)
           clear ho hu hf HA98 HV98 HP98_8 HP98_9
           go_wp2_with (fail)
           refine hK.out _ _ (HSP.out _ HA99.out.o) (fun hS => ?_)
           clear hK K
           try simp only [Act.put,List.getElem_toArray,List.getElem_cons_succ,List.getElem_cons_zero,List.setIfInBounds_toArray,List.set_cons_zero,List.set_cons_succ]
           clear hS
           have X := kp (ap_end HA99.out HP99_8.out HP99_9.out HNE.out.symm (ro st2 se2 D97 E97) (ro st1 se1 D99 E99))
           refine rd1 (i := 10) (by kernel_rfl) rfl (fun K hK => ?_)
           rw [if_pos (by rfl)]
           refine wp_store_row 31 _ _ rfl bb96 (ro st2 se2 D97 E97) rfl rfl 31 _ HP99_8.out.box (by kernel_rfl) rfl (ro1 _ _ _ _) ?_
           refine hK.out _ _ (HSP.out _ X.out.2.1.o) (fun hS => ?_)
           clear hK K
           try simp only [Act.put,List.getElem_toArray,List.getElem_cons_succ,List.getElem_cons_zero,List.setIfInBounds_toArray,List.set_cons_zero,List.set_cons_succ]
           refine rd1 (i := 11) (by kernel_rfl) rfl (fun K hK => ?_)
           rw [if_pos (by rfl)]
           refine wp_store_row 31 _ _ rfl bb85 (ro st1 se1 D99 E99) rfl rfl 31 _ X.out.1 (by kernel_rfl) rfl (ro1 _ _ _ _) ?_
           refine hK.out _ _ (HSP.out _ X.out.2.2.1.o) (fun hS => ?_)
           clear hK K
           try simp only [Act.put,List.getElem_toArray,List.getElem_cons_succ,List.getElem_cons_zero,List.setIfInBounds_toArray,List.set_cons_zero,List.set_cons_succ]
           refine wpAnyH_done (by kernel_rfl) ?_ _
           go_wp2_with (fail)
           go_meet
           exact ⟨bb96, bb85, D97, E97, D99, E99, rfl, rfl, X.out.2.2.2.1, X.out.2.2.2.2, HR97.out, HR99.out, X.out.2.2.1.u, HWO.out _ X.out.2.2.1.o, X.out.2.2.1.b⟩
        refine arn rfl (fun K hK => ?_)
        have ha := fun o => HA85.out.bel (balloc W85 o)
        go_simp
        refine hK.out _ _ (HSP.out _ (ha _).o) (fun hS => ?_)
        clear hK K
        try simp only [Act.put,List.getElem_toArray,List.getElem_cons_succ,List.getElem_cons_zero,List.setIfInBounds_toArray,List.set_cons_zero,List.set_cons_succ]
        clear hS
        change wpAnyH _ _ _ _ _ _ _ _ (W85.alloc (.cells (rep 0 0) 31))
        have HA100 := kp (ha (.cells (rep 0 0) 31))
        have HP100_8 := kp (Bp.new HA85.out)
        have HP100_9 := kp (HP85_9.out.bel (balloc W85 (.cells (rep 0 0) 31)))
        have HNE := kp (Nat.ne_of_lt HP85_9.out.lt)
        clear ha HA85 HP85_9 
        generalize W85.heap.size = bb100 at *
        generalize W85.alloc (.cells (rep 0 0) 31) = W100 at *
        refine rd1 (i := 2) (by kernel_rfl) rfl (fun K hK => ?_)
        go_simp
        refine (Wd.own_any (wcmd r n2 x2) (.slice A2 n2 c2) W100 (H2.out.below HA100.out.b) HL2.out).mono ?_
        rintro e W101 ⟨ov101, rfl, ho, hb⟩
        have HA101 := kp (HA100.out.bel hb)
        have HV101 : Hid (Wd.Secs W101 ov101 (wcmd r n2 x2)) := kp (Wd.Own.secs ho)
        have HP101_8 := kp (HP100_8.out.bel hb)
        have HP101_9 := kp (HP100_9.out.bel hb)
        clear ho hb HA100 HP100_8 HP100_9
        go_wp2_with (fail)
        refine hK.out _ _ (HSP.out _ HA101.out.o) (fun hS => ?_)
        clear hK K
        try simp only [Act.put,List.getElem_toArray,List.getElem_cons_succ,List.getElem_cons_zero,List.setIfInBounds_toArray,List.set_cons_zero,List.set_cons_succ]
        clear hS
        refine rd1 (i := 3) (by kernel_rfl) rfl (fun K hK => ?_)
        go_simp
        refine (HC1.out _ _ HA101.out.u HV101.out).mono ?_
        rintro e W102 ⟨dvr, rfl, ho, hu, hf⟩
        have HR102 := kp (rd0 ho)
        obtain ⟨D102, E102, rfl, -, -⟩ := Wd.own_form ho
        have HA102 := kp (HA101.out.do_ HGW2.out hu hf)
        have HP102_8 := kp (HP101_8.out.do_ HA101.out.lt hf)
        have HP102_9 := kp (HP101_9.out.do_ HA101.out.lt hf)
        clear ho hu hf HA101 HV101 HP101_8 HP101_9
        go_wp2_with (fail)
        refine hK.out _ _ (HSP.out _ HA102.out.o) (fun hS => ?_)
        clear hK K
        try simp only [Act.put,List.getElem_toArray,List.getElem_cons_succ,List.getElem_cons_zero,List.setIfInBounds_toArray,List.set_cons_zero,List.set_cons_succ]
        clear hS
        refine rd1 (i := 6) (by kernel_rfl) rfl (fun K hK => ?_)
        go_simp
        refine (Wd.own_any (wcmd p n1 x1) (.slice A1 n1 c1) W102 (H1.out.below HA102.out.b) HL1.out).mono ?_
        rintro e W103 ⟨ov103, rfl, ho, hb⟩
        have HA103 := kp (HA102.out.bel hb)
        have HV103 : Hid (Wd.Secs W103 ov103 (wcmd p n1 x1)) := kp (Wd.Own.secs ho)
        have HP103_8 := kp (HP102_8.out.bel hb)
        have HP103_9 := kp (HP102_9.out.bel hb)
        clear ho hb HA102 HP102_8 HP102_9
        go_wp2_with (fail)
        refine hK.out _ _ (HSP.out _ HA103.out.o) (fun hS => ?_)
        clear hK K
        try simp only [Act.put,List.getElem_toArray,List.getElem_cons_succ,List.getElem_cons_zero,List.setIfInBounds_toArray,List.set_cons_zero,List.set_cons_succ]
        clear hS
        refine rd1 (i := 7) (by kernel_rfl) rfl (fun K hK => ?_)
        go_simp
        refine (HC3.out _ _ HA103.out.u HV103.out).mono ?_
        rintro e W104 ⟨dvr, rfl, ho, hu, hf⟩
        have HR104 := kp (rd0 ho)
        obtain ⟨D104, E104, rfl, -, -⟩ := Wd.own_form ho
        have HA104 := kp (HA103.out.do_ HGW2.out hu hf)
        have HP104_8 := kp (HP103_8.out.do_ HA103.out.lt hf)
        have HP104_9 := kp (HP103_9.out.do_ HA103.out.lt hf)
        clear ho hu hf HA103 HV103 HP103_8 HP103_9
        go_wp2_with (fail)
        refine hK.out _ _ (HSP.out _ HA104.out.o) (fun hS => ?_)
        clear hK K
        try simp only [Act.put,List.getElem_toArray,List.getElem_cons_succ,List.getElem_cons_zero,List.setIfInBounds_toArray,List.set_cons_zero,List.set_cons_succ]
        clear hS
        have X := kp (ap_end HA104.out HP104_8.out HP104_9.out HNE.out.symm (ro st2 se2 D102 E102) (ro st1 se1 D104 E104))
        refine rd1 (i := 10) (by kernel_rfl) rfl (fun K hK => ?_)
        rw [if_pos (by rfl)]
        refine wp_store_row 31 _ _ rfl bb100 (ro st2 se2 D102 E102) rfl rfl 31 _ HP104_8.out.box (by kernel_rfl) rfl (ro1 _ _ _ _) ?_
        refine hK.out _ _ (HSP.out _ X.out.2.1.o) (fun hS => ?_)
        clear hK K
        try simp only [Act.put,List.getElem_toArray,List.getElem_cons_succ,List.getElem_cons_zero,List.setIfInBounds_toArray,List.set_cons_zero,List.set_cons_succ]
        refine rd1 (i := 11) (by kernel_rfl) rfl (fun K hK => ?_)
        rw [if_pos (by rfl)]
        refine wp_store_row 31 _ _ rfl bb85 (ro st1 se1 D104 E104) rfl rfl 31 _ X.out.1 (by kernel_rfl) rfl (ro1 _ _ _ _) ?_
        refine hK.out _ _ (HSP.out _ X.out.2.2.1.o) (fun hS => ?_)
        clear hK K
        try simp only [Act.put,List.getElem_toArray,List.getElem_cons_succ,List.getElem_cons_zero,List.setIfInBounds_toArray,List.set_cons_zero,List.set_cons_succ]
        refine wpAnyH_done (by kernel_rfl) ?_ _
        go_wp2_with (fail)
        go_meet
        exact ⟨bb100, bb85, D102, E102, D104, E104, rfl, rfl, X.out.2.2.2.1, X.out.2.2.2.2, HR102.out, HR104.out, X.out.2.2.1.u, HWO.out _ X.out.2.2.1.o, X.out.2.2.1.b⟩
    case rest =>
      obtain ⟨b18, b19, Dc, Ec, Dd, Ed, rfl, rfl, hx18, hx19, hrc, hrd, hv8, ho9, hb9⟩ := hcut
      obtain ⟨wg, rfl⟩ : ∃ W : World, W = wc := ⟨_, rfl⟩
      have HV6 := kp hv8
      have HB6 := kp hb9
      have HU6 := kp (HU5.out.kept ho9 (by have := HSEP.out; simp; omega) (by have := HSEP.out; simp; omega) (by have := HSEP.out; simp; omega))
      have HY16 := kp ((ho9.block b16 HK16.out.1 (by have := HQ16.out; simp; omega)).trans HP16.out)
      have HY17 := kp ((ho9.block b17 HK16.out.2 (by have := HQ16.out; simp; omega)).trans HP17.out)
      have HY18 := kp hx18
      have HY19 := kp hx19
      have HS1 := kp (fun W => same_reply st1 se1 0 [] _ _ W (HRA.out W) (hrd W))
      have HS2 := kp (fun W => same_reply st2 se2 0 [] _ _ W (HRB.out W) (hrc W))
      clear hx18 hx19 hrc hrd hv8 ho9 hb9 HU5 HV5 HB5 HP16 HP17 HX24 HX25 HD1 HD2
      go_wp2_with (first
        | (refine wpList_load_row_z rfl 31 _ rfl b16 rfl 31 _ (0, 0) _ HY16.out Try.underlying31 rfl (by kernel_rfl) ?_)
        | (refine wpList_load_row_z rfl 31 _ rfl b19 rfl 31 _ (0, 0) _ HY19.out Try.underlying31 rfl (by kernel_rfl) ?_))
      refine (HS1.out _).mono ?_
      rintro e wh ⟨rfl, hbh⟩
      have HZ17 := kp ((hbh.block b17 (lt_of_heap HY17.out)).trans HY17.out)
      have HZ18 := kp ((hbh.block b18 (lt_of_heap HY18.out)).trans HY18.out)
      have HU7 := kp (HU6.out.below hbh)
      have HV7 := kp (HV6.out.below hbh)
      have HB7 := kp (HB6.out.trans (hbh.mono HB6.out.size))
      clear hbh HU6 HV6 HB6 HY16 HY17 HY18 HY19 HS1
      go_wp2_with (first
        | (refine wpList_load_row_z rfl 31 _ rfl b17 rfl 31 _ (0, 0) _ HZ17.out Try.underlying31 rfl (by kernel_rfl) ?_)
        | (refine wpList_load_row_z rfl 31 _ rfl b18 rfl 31 _ (0, 0) _ HZ18.out Try.underlying31 rfl (by kernel_rfl) ?_))
      refine (HS2.out _).mono ?_
      rintro e wi ⟨rfl, hbi⟩
      have HU8 := kp (HU7.out.below hbi)
      have HV8 := kp (HV7.out.below hbi)
      have HB8 := kp (HB7.out.trans (hbi.mono HB7.out.size))
      clear hbi HU7 HV7 HB7 HZ17 HZ18 HS2
      have HEQ := kp (fun i (hi : i < 60) => apart_eq n1 n2 p r x1 x2 (by have := H1.out.len; rwa [u8s_len] at this) (by have := H2.out.len; rwa [u8s_len] at this) (by have := HRE.out; omega) i hi)
      generalize (if wok n2 r 60 then splice (if wok n1 p 60 then splice (List.replicate (60 * 16) 0) (p * 16) x1 else List.replicate (60 * 16) 0) (r * 16) x2 else (if wok n1 p 60 then splice (List.replicate (60 * 16) 0) (p * 16) x1 else List.replicate (60 * 16) 0)) = bu at *
      generalize (if wok n1 p 60 then splice (if wok n2 r 60 then splice (List.replicate (60 * 16) 0) (r * 16) x2 else List.replicate (60 * 16) 0) (p * 16) x1 else (if wok n2 r 60 then splice (List.replicate (60 * 16) 0) (r * 16) x2 else List.replicate (60 * 16) 0)) = bv at *
      go_wp2_with (fail)
      go_loopg [20] (60) (fun q v20 wr => ∃ i : Nat, i ≤ 60 ∧ v20 = .int .i64 (i : Int) ∧ q = 60 - i ∧ Below wi.heap.size wi wr)
      case atStart => exact ⟨0, by omega, rfl, rfl, Below.refl _ _⟩
      case round =>
        obtain ⟨i, hi, rfl, hq, hb2⟩ := hrel
        have HQ := kp hq
        have HB2 := kp hb2
        have HUr := kp (HU8.out.below hb2)
        have HVr := kp (HV8.out.below hb2)
        clear hq hb2
        by_cases hlt : i < 60
        · as_aux_lemma =>
            have heq := HEQ.out i hlt
            have hsl := sec_len HUr.out.len hlt
            have HI := kp (show (Try.prog.info? 24).map (·.size) = some (u8s (sec bu i)).toArray.size from by simp only [List.size_toArray]; rw [u8s_len, hsl]; exact info24)
            have HSZ : Hid (zlit.size = (u8s (sec bu i)).toArray.size) := kp (by simp only [List.size_toArray]; rw [u8s_len, hsl]; rfl)
            have HE := kp (fun W => (Wd.eq_sec hsl hsl W).trans (by rw [decide_eq_true rfl]))
            have heg := Wd.eqGuard41
            have HEQ2 := kp heq
            clear hsl heq HEQ
            go_wp2_with (fail)
            refine (sector_in g gd gs Dk.new 60 i bu _ HUr.out hlt).mono ?_
            rintro e w15 ⟨rfl, hb15⟩
            have HVs := kp (HVr.out.below hb15)
            have HBs := kp (HB2.out.trans (hb15.mono HB2.out.size))
            clear hb15 HUr HVr
            unfold sval
            go_upto_region 16 with (first
              | (refine wpList_store_row rfl 24 _ _ rfl w15.heap.size _ rfl rfl 24 _ (heap_alloc_new w15 _) HI.out HSZ.out (u8s_all _) ?_))
            have hS := So.start w15 (sec bu i)
            have HY1 := kp hS.box
            have HVt := kp (HVs.out.below hS.bel)
            have HBt := kp (HBs.out.trans (hS.bel.mono HBs.out.size))
            change Code.wp _ _ _ _ ((w15.alloc (.cells zlit 24)).setRow w15.heap.size (u8s (sec bu i)).toArray)
            clear hS HVs HBs
            generalize (w15.alloc (.cells zlit 24)).setRow w15.heap.size (u8s (sec bu i)).toArray = w16 at *
            generalize w15.heap.size = b21 at *
            go_wp2_with (fail)
            refine (sector_in g2 gd2 gs2 Dk.new 60 i bv _ HVt.out hlt).mono ?_
            rw [← HEQ2.out]
            rintro e w17 ⟨rfl, hb17⟩
            have HY2 := kp ((hb17.block b21 (lt_of_heap HY1.out)).trans HY1.out)
            have HBu := kp (HBt.out.trans (hb17.mono HBt.out.size))
            clear hb17 HVt HBt HY1
            unfold sval
            go_upto_region 17 with (first
              | (refine wpList_store_row rfl 24 _ _ rfl w17.heap.size _ rfl rfl 24 _ (heap_alloc_new w17 _) HI.out HSZ.out (u8s_all _) ?_))
            have hS := So.start w17 (sec bu i)
            have HY3 := kp ((hS.bel.block b21 (lt_of_heap HY2.out)).trans HY2.out)
            have HY4 := kp hS.box
            have HBv := kp (HBu.out.trans (hS.bel.mono HBu.out.size))
            change Code.wp _ _ _ _ ((w17.alloc (.cells zlit 24)).setRow w17.heap.size (u8s (sec bu i)).toArray)
            clear hS HBu HY2
            generalize (w17.alloc (.cells zlit 24)).setRow w17.heap.size (u8s (sec bu i)).toArray = w18 at *
            generalize w17.heap.size = b23 at *
            have q := HE.out w18
            go_wp2_with (first
              | (refine wpList_load_row_z rfl 24 _ rfl b21 rfl 24 _ (0, 0) _ HY3.out Try.underlying24 rfl HI.out ?_)
              | (refine wpList_load_row_z rfl 24 _ rfl b23 rfl 24 _ (0, 0) _ HY4.out Try.underlying24 rfl HI.out ?_))
            go_roundg (60 - (i + 1))
            case measure => have := HQ.out; omega
            case rel => exact ⟨i + 1, by omega, by go_num, rfl, HBv.out⟩
        · obtain rfl : i = 60 := by omega
          as_aux_lemma =>
            go_wp2_with (fail)
            go_ret
            exact ⟨rfl, HB8.out.trans (HB2.out.mono HB8.out.size)⟩
end Go.Proofs.Ytjpdjhmajjbgmaa.Md
