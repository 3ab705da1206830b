/- ModelShared, walked. -/
import Derived.Test.YtjpdjhmajjbgmaaShm
set_option linter.unusedVariables false
set_option linter.unusedSimpArgs false
namespace Go.Proofs.Ytjpdjhmajjbgmaa.Md
open Go Go.RowKit Res
open Wd (Cmd u8s balloc Rd)
theorem wpList_load_row_v {P : Program} {ops : Array Oper} {rest : List Oper} {op : Oper} {a : Act} {w : World} {Q : Exit → Act → World → Prop} (hw : Region.wanted op (yielded ops a.tmps) = true) (ty : TypeId) (x : Operand) (ho : op.op = .load ty x)
    (g : Nat) (hx : a.eval x = .pointer (some ⟨g, 0, none⟩)) (t : TypeId) (cs : Array Value) (fr : Nat × Nat) (d : TypeDesc) (hg : w.heap[g]? = some (.cells cs t fr))
    (hu : P.underlying ty = some d) (hd : (match d with | .struct _ | .array _ _ => true | _ => false) = true) (hi : (P.info? ty).map (·.size) = some cs.size)
    (h : wpList P ops Q rest (a.put op.dst (.agg cs)) w) : wpList P ops Q (op :: rest) a w :=
  wpList_step fun _ hK => by
    rw [if_pos hw]
    unfold Oper.wp execOp
    simp only [ho, hx, Instr.loadAt, Instr.sureAddr, Sem.run_bind, Sem.run_pure, Result.andThen_ok, run_loadVar_row w g t ty cs fr d hg hu hd hi]
    exact hK _ _ h
theorem fld0 (st se : Int) (A : Option Addr) (n c : Nat) (W : World) : (Instr.field 31 (.agg #[.int .i64 st, .int .i64 se, .slice A n c]) 0).run Try.prog W = .ok (.int .i64 st) W := by kernel_rfl
/-- A box that calls of Do leave as it is. -/
structure Bk (W : World) (gd gs b : Nat) (t : TypeId) (row : Array Value) : Prop where
  box : W.heap[b]? = some (.cells row t (0, 0))
  far : gd < b ∧ gs < b
section
variable {W W' : World} {gd gs b : Nat} {t : TypeId} {row : Array Value}
theorem Bk.step (h : Bk W gd gs b t row) (ho : Only [gd, gs] W W') : Bk W' gd gs b t row := ⟨(ho.block b (lt_of_heap h.box) (by have := h.far; simp; omega)).trans h.box, h.far⟩
theorem Bk.cell (h : Bk W gd gs b t row) (i : Nat) (v : Value) (hv : row[i]? = some v) : W.cell? ⟨b, i, none⟩ = some v := (cell_of_heap h.box i).trans hv
theorem only_bel (hb : Below W.heap.size W W') : Only [gd, gs] W W' := Only.of_below hb _
theorem only_tr {W'' : World} (h : Only [gd, gs] W W') (k : Only [gd, gs] W' W'') : Only [gd, gs] W W'' := h.trans k (fun _ hx => .inl hx)
end
set_option maxRecDepth 100000 in
set_option maxHeartbeats 8000000 in
theorem shared_walk (a b c : Nat) (s t : List Int) (w : World) (ha : a < 256) (hb : b < 256) (hc : c < 256) (hs : s.length = 16) (ht : t.length = 16) :
    Calls Try.prog 5 #[.int .u8 (a : Int), .int .u8 (b : Int), .int .u8 (c : Int), sval s, sval t] w fun e w' => e = .returned (.bool true) ∧ Below w.heap.size w w' := by
  have hB0 := Wd.two_below w (.cells (u8s s).toArray 24) (.cells (u8s t).toArray 24)
  have hX0 := Wd.two_first w (.cells (u8s s).toArray 24) (.cells (u8s t).toArray 24)
  have hY0 := Wd.two_last w (.cells (u8s s).toArray 24) (.cells (u8s t).toArray 24)
  have HN := Lib.hid (fun W => new_unit 4 (by decide) (by decide) W)
  have HA := Lib.hid (fun W => awake_any W)
  have HSL := Lib.hid hs
  have HTL := Lib.hid ht
  have HIS := Lib.hid (show (Try.prog.info? 24).map (·.size) = some (u8s s).toArray.size from by simp only [List.size_toArray]; rw [u8s_len, hs]; exact info24)
  have HIT := Lib.hid (show (Try.prog.info? 24).map (·.size) = some (u8s t).toArray.size from by simp only [List.size_toArray]; rw [u8s_len, ht]; exact info24)
  have hfd := fld0
  clear hs ht
  unfold sval
  go_enter Try.func5, Try.ntmps5
  go_upto_region 1 with (fail)
  change Code.wp _ _ _ _ ((w.alloc (.cells (u8s s).toArray 24)).alloc (.cells (u8s t).toArray 24))
  generalize (w.alloc (.cells (u8s s).toArray 24)).alloc (.cells (u8s t).toArray 24) = w0 at *
  have HB0 := Lib.hid hB0
  have HX0 := Lib.hid hX0
  have HY0 := Lib.hid hY0
  clear hB0 hX0 hY0
  go_wp2_with (fail)
  refine (HN.out _).mono ?_
  rintro e wa ⟨g, gd, gs, rfl, hu, hg, hgd, hgs, hba⟩
  have HU := Lib.hid hu
  have HB := Lib.hid hba
  clear hu hba
  go_upto_region 3 with (fail)
  obtain ⟨k, hke, hk1, hk4⟩ : ∃ k : Nat, (a : Int) % 4 + 1 = (k : Int) ∧ 1 ≤ k ∧ k ≤ 4 := ⟨a % 4 + 1, by omega, by omega, by omega⟩
  obtain ⟨i, hie, hi⟩ : ∃ i : Nat, (b : Int) % 16 = (i : Int) ∧ i < 16 := ⟨b % 16, by omega, by omega⟩
  obtain ⟨o, hoe, ho⟩ : ∃ o : Nat, (c : Int) % 16 = (o : Int) ∧ o < 16 := ⟨c % 16, by omega, by omega⟩
  rw [hke, hie, hoe]
  clear hke hie hoe
  go_wp2_with (fail)
  refine (HA.out _).mono ?_
  rintro e wb ⟨rfl, hbb⟩
  have HUwb := Lib.hid (HU.out.below hbb)
  have HBwb := Lib.hid (HB.out.trans (hbb.mono HB.out.size))
  clear hbb HU HB HN HA
  by_cases hio : i = o
  · subst hio
    go_wp2_with (fail)
    go_ret
    exact ⟨rfl, HB0.out.trans (HBwb.out.mono HB0.out.size)⟩
  have hioI : ¬ (i : Int) = (o : Int) := by omega
  have hio2 : ((i : Int) == (o : Int)) = false := bF hioI
  have hgw : w0.heap.size ≤ g ∧ w0.heap.size ≤ gd ∧ w0.heap.size ≤ gs := ⟨hg, hgd, hgs⟩
  as_aux_lemma =>
    have HXwb := Lib.hid ((HBwb.out.block _ (lt_of_heap HX0.out)).trans HX0.out)
    have HYwb := Lib.hid ((HBwb.out.block _ (lt_of_heap HY0.out)).trans HY0.out)
    have HU1a := Lib.hid (HUwb.out.below (balloc wb (.cells (u8s (s)).toArray 24)))
    have HN1a := Lib.hid (heap_alloc_new wb (.cells (u8s (s)).toArray 24))
    have HO1a : Hid (Only [gd, gs] wb (wb.alloc (.cells (u8s (s)).toArray 24))) := Lib.hid (only_bel (balloc wb _))
    have HFA1 : Hid (Doed Dk.new 4 b0 (i : Int) (cw s) 1 0 Dk.new (splice b0 16 s)) := Lib.hid (s_write (isIn_nat hi) (new_may hi true) s)
    go_wp2_with (first
      | (refine wpList_load_row_v rfl 24 _ rfl (w.heap.size) rfl 24 _ (0, 0) _ HXwb.out Try.underlying24 rfl HIS.out ?_)
      | (refine wpList_build1 rfl (.tmp 56) rfl s rfl HSL.out ?_))
    refine (do_any g gd gs Dk.new 4 b0 (i : Int) (cw s) (.slice (some ⟨wb.heap.size, 0, none⟩) 1 1) _ HU1a.out (rd_lit (l := s) HN1a.out (by rw [HSL.out]) (by decide))).mono ?_
    rw [HFA1.out.1, HFA1.out.2.1, HFA1.out.2.2]
    rintro e w1 ⟨dv1, rfl, ho1, hu1, hf1⟩
    obtain ⟨Da1, De1, rfl, -, -⟩ := Wd.own_form ho1
    generalize doN Dk.new 4 (i : Int) (cw s) = dn1 at *
    have HFR1 := Lib.hid (only_tr HO1a.out hf1)
    have HUw1 := Lib.hid hu1
    have HBw1 := Lib.hid (Only.below HBwb.out HFR1.out HBwb.out.size (by simp; omega))
    clear ho1 hu1 hf1 HFA1 HFR1 HUwb HBwb HU1a HN1a HO1a
    clear HXwb HYwb
    have HFA2 : Hid (Doed Dk.new 4 (splice b0 16 s) (i : Int) (cv (k : Int)) 3 0 Dk.new (splice b0 16 s)) := Lib.hid (by have h := s_res (d := Dk.new) (bs := (splice b0 16 s)) (by omega : (1 : Int) ≤ (k : Int)) (by omega : (k : Int) ≤ 4) (isIn_nat hi); rw [if_neg (new_res hi (by omega : (1 : Int) ≤ (k : Int)) (by omega : (k : Int) ≤ 4)).1, (new_res hi (by omega : (1 : Int) ≤ (k : Int)) (by omega : (k : Int) ≤ 4)).2] at h; exact h)
    go_wp2_with (fail)
    refine (do_any g gd gs Dk.new 4 (splice b0 16 s) (i : Int) (cv (k : Int)) (.slice none 0 0) _ HUw1.out (Rd.nil _ _)).mono ?_
    rw [HFA2.out.1, HFA2.out.2.1, HFA2.out.2.2]
    rintro e w2 ⟨dv2, rfl, ho2, hu2, hf2⟩
    obtain ⟨Da2, De2, rfl, -, -⟩ := Wd.own_form ho2
    generalize doN Dk.new 4 (i : Int) (cv (k : Int)) = dn2 at *
    have HFR2 := Lib.hid hf2
    have HUw2 := Lib.hid hu2
    have HBw2 := Lib.hid (Only.below HBw1.out HFR2.out HBw1.out.size (by simp; omega))
    clear ho2 hu2 hf2 HFA2 HFR2 HUw1 HBw1
    have HFA3 : Hid (Doed Dk.new 4 (splice b0 16 s) (i : Int) cg 1 0 (Dk.new.reg (i : Int) 3 false) (splice b0 16 s)) := Lib.hid (s_reg (isIn_nat hi))
    go_wp2_with (fail)
    refine (do_any g gd gs Dk.new 4 (splice b0 16 s) (i : Int) cg (.slice none 0 0) _ HUw2.out (Rd.nil _ _)).mono ?_
    rw [HFA3.out.1, HFA3.out.2.1, HFA3.out.2.2]
    rintro e w3 ⟨dv3, rfl, ho3, hu3, hf3⟩
    obtain ⟨Da3, De3, rfl, -, -⟩ := Wd.own_form ho3
    generalize doN Dk.new 4 (i : Int) cg = dn3 at *
    have HFR3 := Lib.hid hf3
    have HUw3 := Lib.hid hu3
    have HBw3 := Lib.hid (Only.below HBw2.out HFR3.out HBw2.out.size (by simp; omega))
    clear ho3 hu3 hf3 HFA3 HFR3 HUw2 HBw2
    have HFA4 : Hid (Doed (Dk.new.reg (i : Int) 3 false) 4 (splice b0 16 s) (i : Int) (cv (k : Int)) 1 0 (D2 i (k : Int)) (splice b0 16 s)) := Lib.hid (by have h := s_res (d := Dk.new.reg (i : Int) 3 false) (bs := (splice b0 16 s)) (by omega : (1 : Int) ≤ (k : Int)) (by omega : (k : Int) ≤ 4) (isIn_nat hi); rw [if_pos (d2_res hi (by omega : (1 : Int) ≤ (k : Int)) (by omega : (k : Int) ≤ 4)).1, (d2_res hi (by omega : (1 : Int) ≤ (k : Int)) (by omega : (k : Int) ≤ 4)).2] at h; exact h)
    go_wp2_with (fail)
    refine (do_any g gd gs (Dk.new.reg (i : Int) 3 false) 4 (splice b0 16 s) (i : Int) (cv (k : Int)) (.slice none 0 0) _ HUw3.out (Rd.nil _ _)).mono ?_
    rw [HFA4.out.1, HFA4.out.2.1, HFA4.out.2.2]
    rintro e w4 ⟨dv4, rfl, ho4, hu4, hf4⟩
    obtain ⟨Da4, De4, rfl, -, -⟩ := Wd.own_form ho4
    generalize doN (Dk.new.reg (i : Int) 3 false) 4 (i : Int) (cv (k : Int)) = dn4 at *
    have HFR4 := Lib.hid hf4
    have HUw4 := Lib.hid hu4
    have HBw4 := Lib.hid (Only.below HBw3.out HFR4.out HBw3.out.size (by simp; omega))
    clear ho4 hu4 hf4 HFA4 HFR4 HUw3 HBw3
    have HXw4 := Lib.hid ((HBw4.out.block _ (lt_of_heap HX0.out)).trans HX0.out)
    have HYw4 := Lib.hid ((HBw4.out.block _ (lt_of_heap HY0.out)).trans HY0.out)
    have HU5a := Lib.hid (HUw4.out.below (balloc w4 (.cells (u8s (t)).toArray 24)))
    have HN5a := Lib.hid (heap_alloc_new w4 (.cells (u8s (t)).toArray 24))
    have HO5a : Hid (Only [gd, gs] w4 (w4.alloc (.cells (u8s (t)).toArray 24))) := Lib.hid (only_bel (balloc w4 _))
    have HFA5 : Hid (Doed (D2 i (k : Int)) 4 (splice b0 16 s) (o : Int) (cw t) 3 0 (D2 i (k : Int)) (splice b0 16 s)) := Lib.hid (s_conf (isIn_nat ho) (d2_may_w ho hio (by omega : (1 : Int) ≤ (k : Int)) (by omega : (k : Int) ≤ 4)) (chk_w t) (.inl rfl))
    go_wp2_with (first
      | (refine wpList_load_row_v rfl 24 _ rfl (w.heap.size + 1) rfl 24 _ (0, 0) _ HYw4.out Try.underlying24 rfl HIT.out ?_)
      | (refine wpList_build1 rfl (.tmp 90) rfl t rfl HTL.out ?_))
    refine (do_any g gd gs (D2 i (k : Int)) 4 (splice b0 16 s) (o : Int) (cw t) (.slice (some ⟨w4.heap.size, 0, none⟩) 1 1) _ HU5a.out (rd_lit (l := t) HN5a.out (by rw [HTL.out]) (by decide))).mono ?_
    rw [HFA5.out.1, HFA5.out.2.1, HFA5.out.2.2]
    rintro e w5 ⟨dv5, rfl, ho5, hu5, hf5⟩
    obtain ⟨Da5, De5, rfl, -, -⟩ := Wd.own_form ho5
    generalize doN (D2 i (k : Int)) 4 (o : Int) (cw t) = dn5 at *
    have HLT5 : Hid (gd < w5.heap.size ∧ gs < w5.heap.size) := Lib.hid ⟨hu5.d.lt, lt_of_heap hu5.s⟩
    go_upto_region 8 with (first
      | (refine wpList_store_row rfl 31 _ _ rfl w5.heap.size _ rfl rfl 31 _ (heap_alloc_new w5 _) (by kernel_rfl) rfl (rep_one3 _ _ _ _ _) ?_))
    have hX5 := Bo.start w5 3 0 (.slice Da5 dn5 De5)
    change Code.wp _ _ _ _ ((w5.alloc (.cells (rep 0 0) 31)).setRow w5.heap.size #[.int .i64 3, .int .i64 0, .slice Da5 dn5 De5])
    have HFR5 : Hid (Only [gd, gs] w4 _) := Lib.hid (only_tr (only_tr HO5a.out hf5) (only_bel hX5.bel))
    have HUwx5 := Lib.hid (hu5.below hX5.bel)
    have HBwx5 := Lib.hid (Only.below HBw4.out HFR5.out HBw4.out.size (by simp; omega))
    have HK16 : Hid (Bk _ gd gs w5.heap.size 31 #[.int .i64 3, .int .i64 0, .slice Da5 dn5 De5]) := Lib.hid ⟨hX5.box, HLT5.out⟩
    clear hX5 ho5 hu5 hf5 HFA5 HFR5 HLT5 HUw4 HBw4 HU5a HN5a HO5a
    generalize (w5.alloc (.cells (rep 0 0) 31)).setRow w5.heap.size #[.int .i64 3, .int .i64 0, .slice Da5 dn5 De5] = wx5 at *
    generalize w5.heap.size = b16 at *
    try simp only [Act.put]
    clear HXw4 HYw4
    have HXwx5 := Lib.hid ((HBwx5.out.block _ (lt_of_heap HX0.out)).trans HX0.out)
    have HYwx5 := Lib.hid ((HBwx5.out.block _ (lt_of_heap HY0.out)).trans HY0.out)
    have HU6a := Lib.hid (HUwx5.out.below (balloc wx5 (.cells (u8s (s ++ t)).toArray 24)))
    have HN6a := Lib.hid (heap_alloc_new wx5 (.cells (u8s (s ++ t)).toArray 24))
    have HO6a : Hid (Only [gd, gs] wx5 (wx5.alloc (.cells (u8s (s ++ t)).toArray 24))) := Lib.hid (only_bel (balloc wx5 _))
    have HFA6 : Hid (Doed (D2 i (k : Int)) 4 (splice b0 16 s) (o : Int) (cc s t) 3 0 (D2 i (k : Int)) (splice b0 16 s)) := Lib.hid (s_conf (isIn_nat ho) (d2_may_w ho hio (by omega : (1 : Int) ≤ (k : Int)) (by omega : (k : Int) ≤ 4)) (chk_c s t) (.inr (.inl rfl)))
    go_wp2_with (first
      | (refine wpList_load_row_v rfl 24 _ rfl (w.heap.size) rfl 24 _ (0, 0) _ HXwx5.out Try.underlying24 rfl HIS.out ?_)
      | (refine wpList_load_row_v rfl 24 _ rfl (w.heap.size + 1) rfl 24 _ (0, 0) _ HYwx5.out Try.underlying24 rfl HIT.out ?_)
      | (refine wpList_build2 rfl (.tmp 96) (.tmp 97) rfl s t rfl rfl HSL.out HTL.out ?_))
    refine (do_any g gd gs (D2 i (k : Int)) 4 (splice b0 16 s) (o : Int) (cc s t) (.slice (some ⟨wx5.heap.size, 0, none⟩) 2 2) _ HU6a.out (rd_lit (l := s ++ t) HN6a.out (by rw [List.length_append, HSL.out, HTL.out]) (by decide))).mono ?_
    rw [HFA6.out.1, HFA6.out.2.1, HFA6.out.2.2]
    rintro e w6 ⟨dv6, rfl, ho6, hu6, hf6⟩
    obtain ⟨Da6, De6, rfl, -, -⟩ := Wd.own_form ho6
    generalize doN (D2 i (k : Int)) 4 (o : Int) (cc s t) = dn6 at *
    have HLT6 : Hid (gd < w6.heap.size ∧ gs < w6.heap.size) := Lib.hid ⟨hu6.d.lt, lt_of_heap hu6.s⟩
    go_upto_region 9 with (first
      | (refine wpList_store_row rfl 31 _ _ rfl w6.heap.size _ rfl rfl 31 _ (heap_alloc_new w6 _) (by kernel_rfl) rfl (rep_one3 _ _ _ _ _) ?_))
    have hX6 := Bo.start w6 3 0 (.slice Da6 dn6 De6)
    change Code.wp _ _ _ _ ((w6.alloc (.cells (rep 0 0) 31)).setRow w6.heap.size #[.int .i64 3, .int .i64 0, .slice Da6 dn6 De6])
    have HFR6 : Hid (Only [gd, gs] wx5 _) := Lib.hid (only_tr (only_tr HO6a.out hf6) (only_bel hX6.bel))
    have HUwx6 := Lib.hid (hu6.below hX6.bel)
    have HBwx6 := Lib.hid (Only.below HBwx5.out HFR6.out HBwx5.out.size (by simp; omega))
    have HK17 : Hid (Bk _ gd gs w6.heap.size 31 #[.int .i64 3, .int .i64 0, .slice Da6 dn6 De6]) := Lib.hid ⟨hX6.box, HLT6.out⟩
    replace HK16 := Lib.hid (HK16.out.step HFR6.out)
    clear hX6 ho6 hu6 hf6 HFA6 HFR6 HLT6 HUwx5 HBwx5 HU6a HN6a HO6a
    generalize (w6.alloc (.cells (rep 0 0) 31)).setRow w6.heap.size #[.int .i64 3, .int .i64 0, .slice Da6 dn6 De6] = wx6 at *
    generalize w6.heap.size = b17 at *
    try simp only [Act.put]
    clear HXwx5 HYwx5
    have HFA7 : Hid (Doed (D2 i (k : Int)) 4 (splice b0 16 s) (o : Int) cu 3 0 (D2 i (k : Int)) (splice b0 16 s)) := Lib.hid (s_conf (isIn_nat ho) (d2_may_w ho hio (by omega : (1 : Int) ≤ (k : Int)) (by omega : (k : Int) ≤ 4)) rfl (.inr (.inr rfl)))
    go_wp2_with (fail)
    refine (do_any g gd gs (D2 i (k : Int)) 4 (splice b0 16 s) (o : Int) cu (.slice none 0 0) _ HUwx6.out (Rd.nil _ _)).mono ?_
    rw [HFA7.out.1, HFA7.out.2.1, HFA7.out.2.2]
    rintro e w7 ⟨dv7, rfl, ho7, hu7, hf7⟩
    obtain ⟨Da7, De7, rfl, -, -⟩ := Wd.own_form ho7
    generalize doN (D2 i (k : Int)) 4 (o : Int) cu = dn7 at *
    have HLT7 : Hid (gd < w7.heap.size ∧ gs < w7.heap.size) := Lib.hid ⟨hu7.d.lt, lt_of_heap hu7.s⟩
    go_upto_region 10 with (first
      | (refine wpList_store_row rfl 31 _ _ rfl w7.heap.size _ rfl rfl 31 _ (heap_alloc_new w7 _) (by kernel_rfl) rfl (rep_one3 _ _ _ _ _) ?_))
    have hX7 := Bo.start w7 3 0 (.slice Da7 dn7 De7)
    change Code.wp _ _ _ _ ((w7.alloc (.cells (rep 0 0) 31)).setRow w7.heap.size #[.int .i64 3, .int .i64 0, .slice Da7 dn7 De7])
    have HFR7 : Hid (Only [gd, gs] wx6 _) := Lib.hid (only_tr hf7 (only_bel hX7.bel))
    have HUwx7 := Lib.hid (hu7.below hX7.bel)
    have HBwx7 := Lib.hid (Only.below HBwx6.out HFR7.out HBwx6.out.size (by simp; omega))
    have HK18 : Hid (Bk _ gd gs w7.heap.size 31 #[.int .i64 3, .int .i64 0, .slice Da7 dn7 De7]) := Lib.hid ⟨hX7.box, HLT7.out⟩
    replace HK16 := Lib.hid (HK16.out.step HFR7.out)
    replace HK17 := Lib.hid (HK17.out.step HFR7.out)
    clear hX7 ho7 hu7 hf7 HFA7 HFR7 HLT7 HUwx6 HBwx6
    generalize (w7.alloc (.cells (rep 0 0) 31)).setRow w7.heap.size #[.int .i64 3, .int .i64 0, .slice Da7 dn7 De7] = wx7 at *
    generalize w7.heap.size = b18 at *
    try simp only [Act.put]
    obtain ⟨st8, hst8⟩ : ∃ st8 : Int, st8 = if (D2 i (k : Int)).may (o : Int) false = true then 1 else 3 := ⟨_, rfl⟩
    have HST8 := Lib.hid hst8
    clear hst8
    have HFA8 : Hid (Doed (D2 i (k : Int)) 4 (splice b0 16 s) (o : Int) cr st8 0 (D2 i (k : Int)) (splice b0 16 s)) := Lib.hid (by rw [HST8.out]; exact s_read (isIn_nat ho))
    go_wp2_with (fail)
    refine (do_any g gd gs (D2 i (k : Int)) 4 (splice b0 16 s) (o : Int) cr (.slice none 0 0) _ HUwx7.out (Rd.nil _ _)).mono ?_
    rw [HFA8.out.1, HFA8.out.2.1, HFA8.out.2.2]
    rintro e w8 ⟨dv8, rfl, ho8, hu8, hf8⟩
    obtain ⟨Da8, De8, rfl, -, -⟩ := Wd.own_form ho8
    generalize doN (D2 i (k : Int)) 4 (o : Int) cr = dn8 at *
    have HLT8 : Hid (gd < w8.heap.size ∧ gs < w8.heap.size) := Lib.hid ⟨hu8.d.lt, lt_of_heap hu8.s⟩
    go_upto_region 11 with (first
      | (refine wpList_store_row rfl 31 _ _ rfl w8.heap.size _ rfl rfl 31 _ (heap_alloc_new w8 _) (by kernel_rfl) rfl (rep_one3 _ _ _ _ _) ?_))
    have hX8 := Bo.start w8 st8 0 (.slice Da8 dn8 De8)
    change Code.wp _ _ _ _ ((w8.alloc (.cells (rep 0 0) 31)).setRow w8.heap.size #[.int .i64 st8, .int .i64 0, .slice Da8 dn8 De8])
    have HFR8 : Hid (Only [gd, gs] wx7 _) := Lib.hid (only_tr hf8 (only_bel hX8.bel))
    have HUwx8 := Lib.hid (hu8.below hX8.bel)
    have HBwx8 := Lib.hid (Only.below HBwx7.out HFR8.out HBwx7.out.size (by simp; omega))
    have HK19 : Hid (Bk _ gd gs w8.heap.size 31 #[.int .i64 st8, .int .i64 0, .slice Da8 dn8 De8]) := Lib.hid ⟨hX8.box, HLT8.out⟩
    replace HK16 := Lib.hid (HK16.out.step HFR8.out)
    replace HK17 := Lib.hid (HK17.out.step HFR8.out)
    replace HK18 := Lib.hid (HK18.out.step HFR8.out)
    clear hX8 ho8 hu8 hf8 HFA8 HFR8 HLT8 HUwx7 HBwx7
    generalize (w8.alloc (.cells (rep 0 0) 31)).setRow w8.heap.size #[.int .i64 st8, .int .i64 0, .slice Da8 dn8 De8] = wx8 at *
    generalize w8.heap.size = b19 at *
    try simp only [Act.put]
    have hb64 : (splice b0 16 s).length = 64 := HUwx8.out.len
    have HSZ : Hid (zlit.size = (u8s s).toArray.size) := Lib.hid (by simp only [List.size_toArray]; rw [u8s_len, HSL.out]; rfl)
    have hsw : sec (splice b0 16 s) 1 = s := sec_write (by simp [b0]) HSL.out
    go_wp2_with (fail)
    refine (sector_in g gd gs (D2 i (k : Int)) 4 1 (splice b0 16 s) _ HUwx8.out (by decide)).mono ?_
    rw [hsw]
    clear hsw hb64
    rintro e w9 ⟨rfl, hb9⟩
    unfold sval
    have HLT9 : Hid (gd < w9.heap.size ∧ gs < w9.heap.size) := Lib.hid (by have h1 := HUwx8.out.d.lt; have h2 := lt_of_heap HUwx8.out.s; have := hb9.size; omega)
    go_upto_region 12 with (first
      | (refine wpList_store_row rfl 24 _ _ rfl w9.heap.size _ rfl rfl 24 _ (heap_alloc_new w9 _) HIS.out HSZ.out (u8s_all _) ?_))
    have hS := So.start w9 s
    have hfr : Only [gd, gs] wx8 _ := only_tr (only_bel hb9) (only_bel hS.bel)
    have HUwx9 := Lib.hid ((HUwx8.out.below hb9).below hS.bel)
    have HBwx9 := Lib.hid (Only.below HBwx8.out hfr HBwx8.out.size (by simp; omega))
    have HL20 := Lib.hid (show w0.heap.size ≤ w9.heap.size from by have := HBwx8.out.size; have := hb9.size; omega)
    have HK20 : Hid (Bk _ gd gs w9.heap.size 24 (u8s s).toArray) := Lib.hid ⟨hS.box, HLT9.out⟩
    replace HK16 := Lib.hid (HK16.out.step hfr)
    replace HK17 := Lib.hid (HK17.out.step hfr)
    replace HK18 := Lib.hid (HK18.out.step hfr)
    replace HK19 := Lib.hid (HK19.out.step hfr)
    change Code.wp _ _ _ _ ((w9.alloc (.cells zlit 24)).setRow w9.heap.size (u8s s).toArray)
    clear hS hfr hb9 HUwx8 HBwx8 HLT9 HSZ
    generalize (w9.alloc (.cells zlit 24)).setRow w9.heap.size (u8s s).toArray = wx9 at *
    generalize w9.heap.size = b20 at *
    try simp only [Act.put]
    have HE := Lib.hid (fun W => (Wd.eq_sec HSL.out HSL.out W).trans (by rw [decide_eq_true rfl]))
    have HE2 := Lib.hid (fun W => (Wd.eq_sec HTL.out HTL.out W).trans (by rw [decide_eq_true rfl]))
    have heg := Wd.eqGuard41
    have e16 := HK16.out.cell 0 (.int .i64 3) rfl
    have e17 := HK17.out.cell 0 (.int .i64 3) rfl
    have e18 := HK18.out.cell 0 (.int .i64 3) rfl
    have e19 := HK19.out.cell 0 (.int .i64 st8) rfl
    have hst8 := HST8.out
    rw [d2_may_r ho hio (by omega : (1 : Int) ≤ (k : Int)) (by omega : (k : Int) ≤ 4)] at hst8
    clear HST8 HK16 HK17 HK18 HK19
    by_cases k1 : (k : Int) = 1
    · have t1 := bT k1
      have t3 : ((k : Int) == 3) = false := bF (by omega)
      obtain rfl : st8 = 1 := by rw [hst8, k1]; simp
      clear hst8 k1
      as_aux_lemma =>
        have HXwx9 := Lib.hid ((HBwx9.out.block _ (lt_of_heap HX0.out)).trans HX0.out)
        have HYwx9 := Lib.hid ((HBwx9.out.block _ (lt_of_heap HY0.out)).trans HY0.out)
        have q := HE.out wx9
        have HFA10 : Hid (Doed (D2 i (k : Int)) 4 (splice b0 16 s) (o : Int) ct 1 0 (D2 i (k : Int)) (splice b0 16 s)) := Lib.hid (s_test (isIn_nat ho))
        go_wp2_with (first
          | (refine wpList_load_row_v rfl 24 _ rfl (b20) rfl 24 _ (0, 0) _ HK20.out.box Try.underlying24 rfl HIS.out ?_)
          | (refine wpList_load_row_v rfl 24 _ rfl (w.heap.size) rfl 24 _ (0, 0) _ HXwx9.out Try.underlying24 rfl HIS.out ?_))
        clear q e16 e17 e18 e19
        refine (do_any g gd gs (D2 i (k : Int)) 4 (splice b0 16 s) (o : Int) ct (.slice none 0 0) _ HUwx9.out (Rd.nil _ _)).mono ?_
        rw [HFA10.out.1, HFA10.out.2.1, HFA10.out.2.2]
        rintro e w10 ⟨dv10, rfl, ho10, hu10, hf10⟩
        obtain ⟨Da10, De10, rfl, -, -⟩ := Wd.own_form ho10
        generalize doN (D2 i (k : Int)) 4 (o : Int) ct = dn10 at *
        have HFR10 := Lib.hid hf10
        have HUw10 := Lib.hid hu10
        have HBw10 := Lib.hid (Only.below HBwx9.out HFR10.out HBwx9.out.size (by simp; omega))
        replace HK20 := Lib.hid (HK20.out.step HFR10.out)
        clear ho10 hu10 hf10 HFA10 HFR10 HUwx9 HBwx9
        clear HXwx9 HYwx9
        have HFA11 : Hid (Doed (D2 i (k : Int)) 4 (splice b0 16 s) (o : Int) cl 3 0 (D2 i (k : Int)) (splice b0 16 s)) := Lib.hid (by have h := s_clear (d := (D2 i (k : Int))) (bs := (splice b0 16 s)) (isIn_nat ho); rw [if_neg (d2_fault_o ho hio (k : Int)), d2_clr_o ho hio] at h; exact h)
        go_wp2_with (fail)
        refine (do_any g gd gs (D2 i (k : Int)) 4 (splice b0 16 s) (o : Int) cl (.slice none 0 0) _ HUw10.out (Rd.nil _ _)).mono ?_
        rw [HFA11.out.1, HFA11.out.2.1, HFA11.out.2.2]
        rintro e w11 ⟨dv11, rfl, ho11, hu11, hf11⟩
        obtain ⟨Da11, De11, rfl, -, -⟩ := Wd.own_form ho11
        generalize doN (D2 i (k : Int)) 4 (o : Int) cl = dn11 at *
        have HFR11 := Lib.hid hf11
        have HUw11 := Lib.hid hu11
        have HBw11 := Lib.hid (Only.below HBw10.out HFR11.out HBw10.out.size (by simp; omega))
        replace HK20 := Lib.hid (HK20.out.step HFR11.out)
        clear ho11 hu11 hf11 HFA11 HFR11 HUw10 HBw10
        have HFA12 : Hid (Doed (D2 i (k : Int)) 4 (splice b0 16 s) (i : Int) cl 1 0 Dk.new (splice b0 16 s)) := Lib.hid (by have h := s_clear (d := (D2 i (k : Int))) (bs := (splice b0 16 s)) (isIn_nat hi); rw [if_pos (d2_fault_i hi (k : Int)), d2_clr_i hi] at h; exact h)
        go_wp2_with (fail)
        refine (do_any g gd gs (D2 i (k : Int)) 4 (splice b0 16 s) (i : Int) cl (.slice none 0 0) _ HUw11.out (Rd.nil _ _)).mono ?_
        rw [HFA12.out.1, HFA12.out.2.1, HFA12.out.2.2]
        rintro e w12 ⟨dv12, rfl, ho12, hu12, hf12⟩
        obtain ⟨Da12, De12, rfl, -, -⟩ := Wd.own_form ho12
        generalize doN (D2 i (k : Int)) 4 (i : Int) cl = dn12 at *
        have HFR12 := Lib.hid hf12
        have HUw12 := Lib.hid hu12
        have HBw12 := Lib.hid (Only.below HBw11.out HFR12.out HBw11.out.size (by simp; omega))
        replace HK20 := Lib.hid (HK20.out.step HFR12.out)
        clear ho12 hu12 hf12 HFA12 HFR12 HUw11 HBw11
        have HXw12 := Lib.hid ((HBw12.out.block _ (lt_of_heap HX0.out)).trans HX0.out)
        have HYw12 := Lib.hid ((HBw12.out.block _ (lt_of_heap HY0.out)).trans HY0.out)
        have HU13a := Lib.hid (HUw12.out.below (balloc w12 (.cells (u8s (t)).toArray 24)))
        have HN13a := Lib.hid (heap_alloc_new w12 (.cells (u8s (t)).toArray 24))
        have HO13a : Hid (Only [gd, gs] w12 (w12.alloc (.cells (u8s (t)).toArray 24))) := Lib.hid (only_bel (balloc w12 _))
        have HFA13 : Hid (Doed Dk.new 4 (splice b0 16 s) (o : Int) (cw t) 1 0 Dk.new (splice (splice b0 16 s) 16 t)) := Lib.hid (s_write (isIn_nat ho) (new_may ho true) t)
        go_wp2_with (first
          | (refine wpList_load_row_v rfl 24 _ rfl (w.heap.size + 1) rfl 24 _ (0, 0) _ HYw12.out Try.underlying24 rfl HIT.out ?_)
          | (refine wpList_build1 rfl (.tmp 169) rfl t rfl HTL.out ?_))
        refine (do_any g gd gs Dk.new 4 (splice b0 16 s) (o : Int) (cw t) (.slice (some ⟨w12.heap.size, 0, none⟩) 1 1) _ HU13a.out (rd_lit (l := t) HN13a.out (by rw [HTL.out]) (by decide))).mono ?_
        rw [HFA13.out.1, HFA13.out.2.1, HFA13.out.2.2]
        rintro e w13 ⟨dv13, rfl, ho13, hu13, hf13⟩
        obtain ⟨Da13, De13, rfl, -, -⟩ := Wd.own_form ho13
        generalize doN Dk.new 4 (o : Int) (cw t) = dn13 at *
        have HFR13 := Lib.hid (only_tr HO13a.out hf13)
        have HUw13 := Lib.hid hu13
        have HBw13 := Lib.hid (Only.below HBw12.out HFR13.out HBw12.out.size (by simp; omega))
        replace HK20 := Lib.hid (HK20.out.step HFR13.out)
        clear ho13 hu13 hf13 HFA13 HFR13 HUw12 HBw12 HU13a HN13a HO13a
        clear HXw12 HYw12
        have hb64 : (splice b0 16 s).length = 64 := by rw [length_splice _ _ _ (by rw [HSL.out]; simp [b0])]; simp [b0]
        have hsw : sec (splice (splice b0 16 s) 16 t) 1 = t := sec_write hb64 HTL.out
        have HSZ : Hid ((u8s s).toArray.size = (u8s t).toArray.size) := Lib.hid (by simp only [List.size_toArray]; rw [u8s_len, u8s_len, HSL.out, HTL.out])
        go_wp2_with (fail)
        refine (sector_in g gd gs Dk.new 4 1 (splice (splice b0 16 s) 16 t) _ HUw13.out (by decide)).mono ?_
        rw [hsw]
        clear hsw hb64
        rintro e w14 ⟨rfl, hb14⟩
        unfold sval
        have HK21 := Lib.hid (HK20.out.step (only_bel hb14))
        have HB14 := Lib.hid (HBw13.out.trans (hb14.mono HBw13.out.size))
        clear hb14
        go_upto_region 17 with (first
          | (refine wpList_store_row rfl 24 _ _ rfl b20 _ rfl rfl 24 _ HK21.out.box HIT.out HSZ.out (u8s_all _) ?_))
        have HX15 := Lib.hid (Wd.heap_setRow HK21.out.box (u8s t).toArray)
        have HB15 := Lib.hid (Only.below HB14.out (Only.setRow (g := b20) (u8s t).toArray) HB14.out.size (by simp; exact HL20.out))
        clear HK20 HK21 HB14
        generalize World.setRow _ _ _ = w15 at *
        have HY15 := Lib.hid ((HB15.out.block _ (lt_of_heap HY0.out)).trans HY0.out)
        have q2 := HE2.out w15
        go_wp2_with (first
          | (refine wpList_load_row_v rfl 24 _ rfl (b20) rfl 24 _ (0, 0) _ HX15.out Try.underlying24 rfl HIT.out ?_)
          | (refine wpList_load_row_v rfl 24 _ rfl (w.heap.size + 1) rfl 24 _ (0, 0) _ HY15.out Try.underlying24 rfl HIT.out ?_))
        go_ret
        exact ⟨rfl, HB0.out.trans (HB15.out.mono HB0.out.size)⟩
    by_cases k3 : (k : Int) = 3
    · have t1 : ((k : Int) == 1) = false := bF k1
      have t3 := bT k3
      obtain rfl : st8 = 1 := by rw [hst8, k3]; simp
      clear hst8 k1 k3
      as_aux_lemma =>
        have HXwx9 := Lib.hid ((HBwx9.out.block _ (lt_of_heap HX0.out)).trans HX0.out)
        have HYwx9 := Lib.hid ((HBwx9.out.block _ (lt_of_heap HY0.out)).trans HY0.out)
        have q := HE.out wx9
        have HFA10 : Hid (Doed (D2 i (k : Int)) 4 (splice b0 16 s) (o : Int) ct 1 0 (D2 i (k : Int)) (splice b0 16 s)) := Lib.hid (s_test (isIn_nat ho))
        go_wp2_with (first
          | (refine wpList_load_row_v rfl 24 _ rfl (b20) rfl 24 _ (0, 0) _ HK20.out.box Try.underlying24 rfl HIS.out ?_)
          | (refine wpList_load_row_v rfl 24 _ rfl (w.heap.size) rfl 24 _ (0, 0) _ HXwx9.out Try.underlying24 rfl HIS.out ?_))
        clear q e16 e17 e18 e19
        refine (do_any g gd gs (D2 i (k : Int)) 4 (splice b0 16 s) (o : Int) ct (.slice none 0 0) _ HUwx9.out (Rd.nil _ _)).mono ?_
        rw [HFA10.out.1, HFA10.out.2.1, HFA10.out.2.2]
        rintro e w10 ⟨dv10, rfl, ho10, hu10, hf10⟩
        obtain ⟨Da10, De10, rfl, -, -⟩ := Wd.own_form ho10
        generalize doN (D2 i (k : Int)) 4 (o : Int) ct = dn10 at *
        have HFR10 := Lib.hid hf10
        have HUw10 := Lib.hid hu10
        have HBw10 := Lib.hid (Only.below HBwx9.out HFR10.out HBwx9.out.size (by simp; omega))
        replace HK20 := Lib.hid (HK20.out.step HFR10.out)
        clear ho10 hu10 hf10 HFA10 HFR10 HUwx9 HBwx9
        clear HXwx9 HYwx9
        have HFA11 : Hid (Doed (D2 i (k : Int)) 4 (splice b0 16 s) (o : Int) cl 3 0 (D2 i (k : Int)) (splice b0 16 s)) := Lib.hid (by have h := s_clear (d := (D2 i (k : Int))) (bs := (splice b0 16 s)) (isIn_nat ho); rw [if_neg (d2_fault_o ho hio (k : Int)), d2_clr_o ho hio] at h; exact h)
        go_wp2_with (fail)
        refine (do_any g gd gs (D2 i (k : Int)) 4 (splice b0 16 s) (o : Int) cl (.slice none 0 0) _ HUw10.out (Rd.nil _ _)).mono ?_
        rw [HFA11.out.1, HFA11.out.2.1, HFA11.out.2.2]
        rintro e w11 ⟨dv11, rfl, ho11, hu11, hf11⟩
        obtain ⟨Da11, De11, rfl, -, -⟩ := Wd.own_form ho11
        generalize doN (D2 i (k : Int)) 4 (o : Int) cl = dn11 at *
        have HFR11 := Lib.hid hf11
        have HUw11 := Lib.hid hu11
        have HBw11 := Lib.hid (Only.below HBw10.out HFR11.out HBw10.out.size (by simp; omega))
        replace HK20 := Lib.hid (HK20.out.step HFR11.out)
        clear ho11 hu11 hf11 HFA11 HFR11 HUw10 HBw10
        have HFA12 : Hid (Doed (D2 i (k : Int)) 4 (splice b0 16 s) (i : Int) cl 1 0 Dk.new (splice b0 16 s)) := Lib.hid (by have h := s_clear (d := (D2 i (k : Int))) (bs := (splice b0 16 s)) (isIn_nat hi); rw [if_pos (d2_fault_i hi (k : Int)), d2_clr_i hi] at h; exact h)
        go_wp2_with (fail)
        refine (do_any g gd gs (D2 i (k : Int)) 4 (splice b0 16 s) (i : Int) cl (.slice none 0 0) _ HUw11.out (Rd.nil _ _)).mono ?_
        rw [HFA12.out.1, HFA12.out.2.1, HFA12.out.2.2]
        rintro e w12 ⟨dv12, rfl, ho12, hu12, hf12⟩
        obtain ⟨Da12, De12, rfl, -, -⟩ := Wd.own_form ho12
        generalize doN (D2 i (k : Int)) 4 (i : Int) cl = dn12 at *
        have HFR12 := Lib.hid hf12
        have HUw12 := Lib.hid hu12
        have HBw12 := Lib.hid (Only.below HBw11.out HFR12.out HBw11.out.size (by simp; omega))
        replace HK20 := Lib.hid (HK20.out.step HFR12.out)
        clear ho12 hu12 hf12 HFA12 HFR12 HUw11 HBw11
        have HXw12 := Lib.hid ((HBw12.out.block _ (lt_of_heap HX0.out)).trans HX0.out)
        have HYw12 := Lib.hid ((HBw12.out.block _ (lt_of_heap HY0.out)).trans HY0.out)
        have HU13a := Lib.hid (HUw12.out.below (balloc w12 (.cells (u8s (t)).toArray 24)))
        have HN13a := Lib.hid (heap_alloc_new w12 (.cells (u8s (t)).toArray 24))
        have HO13a : Hid (Only [gd, gs] w12 (w12.alloc (.cells (u8s (t)).toArray 24))) := Lib.hid (only_bel (balloc w12 _))
        have HFA13 : Hid (Doed Dk.new 4 (splice b0 16 s) (o : Int) (cw t) 1 0 Dk.new (splice (splice b0 16 s) 16 t)) := Lib.hid (s_write (isIn_nat ho) (new_may ho true) t)
        go_wp2_with (first
          | (refine wpList_load_row_v rfl 24 _ rfl (w.heap.size + 1) rfl 24 _ (0, 0) _ HYw12.out Try.underlying24 rfl HIT.out ?_)
          | (refine wpList_build1 rfl (.tmp 169) rfl t rfl HTL.out ?_))
        refine (do_any g gd gs Dk.new 4 (splice b0 16 s) (o : Int) (cw t) (.slice (some ⟨w12.heap.size, 0, none⟩) 1 1) _ HU13a.out (rd_lit (l := t) HN13a.out (by rw [HTL.out]) (by decide))).mono ?_
        rw [HFA13.out.1, HFA13.out.2.1, HFA13.out.2.2]
        rintro e w13 ⟨dv13, rfl, ho13, hu13, hf13⟩
        obtain ⟨Da13, De13, rfl, -, -⟩ := Wd.own_form ho13
        generalize doN Dk.new 4 (o : Int) (cw t) = dn13 at *
        have HFR13 := Lib.hid (only_tr HO13a.out hf13)
        have HUw13 := Lib.hid hu13
        have HBw13 := Lib.hid (Only.below HBw12.out HFR13.out HBw12.out.size (by simp; omega))
        replace HK20 := Lib.hid (HK20.out.step HFR13.out)
        clear ho13 hu13 hf13 HFA13 HFR13 HUw12 HBw12 HU13a HN13a HO13a
        clear HXw12 HYw12
        have hb64 : (splice b0 16 s).length = 64 := by rw [length_splice _ _ _ (by rw [HSL.out]; simp [b0])]; simp [b0]
        have hsw : sec (splice (splice b0 16 s) 16 t) 1 = t := sec_write hb64 HTL.out
        have HSZ : Hid ((u8s s).toArray.size = (u8s t).toArray.size) := Lib.hid (by simp only [List.size_toArray]; rw [u8s_len, u8s_len, HSL.out, HTL.out])
        go_wp2_with (fail)
        refine (sector_in g gd gs Dk.new 4 1 (splice (splice b0 16 s) 16 t) _ HUw13.out (by decide)).mono ?_
        rw [hsw]
        clear hsw hb64
        rintro e w14 ⟨rfl, hb14⟩
        unfold sval
        have HK21 := Lib.hid (HK20.out.step (only_bel hb14))
        have HB14 := Lib.hid (HBw13.out.trans (hb14.mono HBw13.out.size))
        clear hb14
        go_upto_region 17 with (first
          | (refine wpList_store_row rfl 24 _ _ rfl b20 _ rfl rfl 24 _ HK21.out.box HIT.out HSZ.out (u8s_all _) ?_))
        have HX15 := Lib.hid (Wd.heap_setRow HK21.out.box (u8s t).toArray)
        have HB15 := Lib.hid (Only.below HB14.out (Only.setRow (g := b20) (u8s t).toArray) HB14.out.size (by simp; exact HL20.out))
        clear HK20 HK21 HB14
        generalize World.setRow _ _ _ = w15 at *
        have HY15 := Lib.hid ((HB15.out.block _ (lt_of_heap HY0.out)).trans HY0.out)
        have q2 := HE2.out w15
        go_wp2_with (first
          | (refine wpList_load_row_v rfl 24 _ rfl (b20) rfl 24 _ (0, 0) _ HX15.out Try.underlying24 rfl HIT.out ?_)
          | (refine wpList_load_row_v rfl 24 _ rfl (w.heap.size + 1) rfl 24 _ (0, 0) _ HY15.out Try.underlying24 rfl HIT.out ?_))
        go_ret
        exact ⟨rfl, HB0.out.trans (HB15.out.mono HB0.out.size)⟩
    have t1 : ((k : Int) == 1) = false := bF k1
    have t3 : ((k : Int) == 3) = false := bF k3
    obtain rfl : st8 = 3 := by rw [hst8]; simp [k1, k3]
    clear hst8 k1 k3
    as_aux_lemma =>
      have HXwx9 := Lib.hid ((HBwx9.out.block _ (lt_of_heap HX0.out)).trans HX0.out)
      have HYwx9 := Lib.hid ((HBwx9.out.block _ (lt_of_heap HY0.out)).trans HY0.out)
      have q := HE.out wx9
      have HFA10 : Hid (Doed (D2 i (k : Int)) 4 (splice b0 16 s) (o : Int) ct 1 0 (D2 i (k : Int)) (splice b0 16 s)) := Lib.hid (s_test (isIn_nat ho))
      go_wp2_with (first
        | (refine wpList_load_row_v rfl 24 _ rfl (b20) rfl 24 _ (0, 0) _ HK20.out.box Try.underlying24 rfl HIS.out ?_)
        | (refine wpList_load_row_v rfl 24 _ rfl (w.heap.size) rfl 24 _ (0, 0) _ HXwx9.out Try.underlying24 rfl HIS.out ?_))
      clear q e16 e17 e18 e19
      refine (do_any g gd gs (D2 i (k : Int)) 4 (splice b0 16 s) (o : Int) ct (.slice none 0 0) _ HUwx9.out (Rd.nil _ _)).mono ?_
      rw [HFA10.out.1, HFA10.out.2.1, HFA10.out.2.2]
      rintro e w10 ⟨dv10, rfl, ho10, hu10, hf10⟩
      obtain ⟨Da10, De10, rfl, -, -⟩ := Wd.own_form ho10
      generalize doN (D2 i (k : Int)) 4 (o : Int) ct = dn10 at *
      have HFR10 := Lib.hid hf10
      have HUw10 := Lib.hid hu10
      have HBw10 := Lib.hid (Only.below HBwx9.out HFR10.out HBwx9.out.size (by simp; omega))
      replace HK20 := Lib.hid (HK20.out.step HFR10.out)
      clear ho10 hu10 hf10 HFA10 HFR10 HUwx9 HBwx9
      clear HXwx9 HYwx9
      have HFA11 : Hid (Doed (D2 i (k : Int)) 4 (splice b0 16 s) (o : Int) cl 3 0 (D2 i (k : Int)) (splice b0 16 s)) := Lib.hid (by have h := s_clear (d := (D2 i (k : Int))) (bs := (splice b0 16 s)) (isIn_nat ho); rw [if_neg (d2_fault_o ho hio (k : Int)), d2_clr_o ho hio] at h; exact h)
      go_wp2_with (fail)
      refine (do_any g gd gs (D2 i (k : Int)) 4 (splice b0 16 s) (o : Int) cl (.slice none 0 0) _ HUw10.out (Rd.nil _ _)).mono ?_
      rw [HFA11.out.1, HFA11.out.2.1, HFA11.out.2.2]
      rintro e w11 ⟨dv11, rfl, ho11, hu11, hf11⟩
      obtain ⟨Da11, De11, rfl, -, -⟩ := Wd.own_form ho11
      generalize doN (D2 i (k : Int)) 4 (o : Int) cl = dn11 at *
      have HFR11 := Lib.hid hf11
      have HUw11 := Lib.hid hu11
      have HBw11 := Lib.hid (Only.below HBw10.out HFR11.out HBw10.out.size (by simp; omega))
      replace HK20 := Lib.hid (HK20.out.step HFR11.out)
      clear ho11 hu11 hf11 HFA11 HFR11 HUw10 HBw10
      have HFA12 : Hid (Doed (D2 i (k : Int)) 4 (splice b0 16 s) (i : Int) cl 1 0 Dk.new (splice b0 16 s)) := Lib.hid (by have h := s_clear (d := (D2 i (k : Int))) (bs := (splice b0 16 s)) (isIn_nat hi); rw [if_pos (d2_fault_i hi (k : Int)), d2_clr_i hi] at h; exact h)
      go_wp2_with (fail)
      refine (do_any g gd gs (D2 i (k : Int)) 4 (splice b0 16 s) (i : Int) cl (.slice none 0 0) _ HUw11.out (Rd.nil _ _)).mono ?_
      rw [HFA12.out.1, HFA12.out.2.1, HFA12.out.2.2]
      rintro e w12 ⟨dv12, rfl, ho12, hu12, hf12⟩
      obtain ⟨Da12, De12, rfl, -, -⟩ := Wd.own_form ho12
      generalize doN (D2 i (k : Int)) 4 (i : Int) cl = dn12 at *
      have HFR12 := Lib.hid hf12
      have HUw12 := Lib.hid hu12
      have HBw12 := Lib.hid (Only.below HBw11.out HFR12.out HBw11.out.size (by simp; omega))
      replace HK20 := Lib.hid (HK20.out.step HFR12.out)
      clear ho12 hu12 hf12 HFA12 HFR12 HUw11 HBw11
      have HXw12 := Lib.hid ((HBw12.out.block _ (lt_of_heap HX0.out)).trans HX0.out)
      have HYw12 := Lib.hid ((HBw12.out.block _ (lt_of_heap HY0.out)).trans HY0.out)
      have HU13a := Lib.hid (HUw12.out.below (balloc w12 (.cells (u8s (t)).toArray 24)))
      have HN13a := Lib.hid (heap_alloc_new w12 (.cells (u8s (t)).toArray 24))
      have HO13a : Hid (Only [gd, gs] w12 (w12.alloc (.cells (u8s (t)).toArray 24))) := Lib.hid (only_bel (balloc w12 _))
      have HFA13 : Hid (Doed Dk.new 4 (splice b0 16 s) (o : Int) (cw t) 1 0 Dk.new (splice (splice b0 16 s) 16 t)) := Lib.hid (s_write (isIn_nat ho) (new_may ho true) t)
      go_wp2_with (first
        | (refine wpList_load_row_v rfl 24 _ rfl (w.heap.size + 1) rfl 24 _ (0, 0) _ HYw12.out Try.underlying24 rfl HIT.out ?_)
        | (refine wpList_build1 rfl (.tmp 169) rfl t rfl HTL.out ?_))
      refine (do_any g gd gs Dk.new 4 (splice b0 16 s) (o : Int) (cw t) (.slice (some ⟨w12.heap.size, 0, none⟩) 1 1) _ HU13a.out (rd_lit (l := t) HN13a.out (by rw [HTL.out]) (by decide))).mono ?_
      rw [HFA13.out.1, HFA13.out.2.1, HFA13.out.2.2]
      rintro e w13 ⟨dv13, rfl, ho13, hu13, hf13⟩
      obtain ⟨Da13, De13, rfl, -, -⟩ := Wd.own_form ho13
      generalize doN Dk.new 4 (o : Int) (cw t) = dn13 at *
      have HFR13 := Lib.hid (only_tr HO13a.out hf13)
      have HUw13 := Lib.hid hu13
      have HBw13 := Lib.hid (Only.below HBw12.out HFR13.out HBw12.out.size (by simp; omega))
      replace HK20 := Lib.hid (HK20.out.step HFR13.out)
      clear ho13 hu13 hf13 HFA13 HFR13 HUw12 HBw12 HU13a HN13a HO13a
      clear HXw12 HYw12
      have hb64 : (splice b0 16 s).length = 64 := by rw [length_splice _ _ _ (by rw [HSL.out]; simp [b0])]; simp [b0]
      have hsw : sec (splice (splice b0 16 s) 16 t) 1 = t := sec_write hb64 HTL.out
      have HSZ : Hid ((u8s s).toArray.size = (u8s t).toArray.size) := Lib.hid (by simp only [List.size_toArray]; rw [u8s_len, u8s_len, HSL.out, HTL.out])
      go_wp2_with (fail)
      refine (sector_in g gd gs Dk.new 4 1 (splice (splice b0 16 s) 16 t) _ HUw13.out (by decide)).mono ?_
      rw [hsw]
      clear hsw hb64
      rintro e w14 ⟨rfl, hb14⟩
      unfold sval
      have HK21 := Lib.hid (HK20.out.step (only_bel hb14))
      have HB14 := Lib.hid (HBw13.out.trans (hb14.mono HBw13.out.size))
      clear hb14
      go_upto_region 17 with (first
        | (refine wpList_store_row rfl 24 _ _ rfl b20 _ rfl rfl 24 _ HK21.out.box HIT.out HSZ.out (u8s_all _) ?_))
      have HX15 := Lib.hid (Wd.heap_setRow HK21.out.box (u8s t).toArray)
      have HB15 := Lib.hid (Only.below HB14.out (Only.setRow (g := b20) (u8s t).toArray) HB14.out.size (by simp; exact HL20.out))
      clear HK20 HK21 HB14
      generalize World.setRow _ _ _ = w15 at *
      have HY15 := Lib.hid ((HB15.out.block _ (lt_of_heap HY0.out)).trans HY0.out)
      have q2 := HE2.out w15
      go_wp2_with (first
        | (refine wpList_load_row_v rfl 24 _ rfl (b20) rfl 24 _ (0, 0) _ HX15.out Try.underlying24 rfl HIT.out ?_)
        | (refine wpList_load_row_v rfl 24 _ rfl (w.heap.size + 1) rfl 24 _ (0, 0) _ HY15.out Try.underlying24 rfl HIT.out ?_))
      go_ret
      exact ⟨rfl, HB0.out.trans (HB15.out.mono HB0.out.size)⟩
end Go.Proofs.Ytjpdjhmajjbgmaa.Md
