/- ModelWrites, walked. -/
import Derived.Test.YtjpdjhmajjbgmaaBls
set_option linter.unusedVariables false
set_option linter.unusedSimpArgs false
namespace Go.Proofs.Ytjpdjhmajjbgmaa.Md
open Go Go.RowKit Res
open Wd (Cmd u8s balloc Rd)
theorem wpList_load_row_w {P : Program} {ops : Array Oper} {rest : List Oper} {op : Oper} {a : Act} {w : World} {Q : Exit → Act → World → Prop} (hw : Region.wanted op (yielded ops a.tmps) = true) (ty : TypeId) (x : Operand) (ho : op.op = .load ty x)
    (g : Nat) (hx : a.eval x = .pointer (some ⟨g, 0, none⟩)) (t : TypeId) (cs : Array Value) (fr : Nat × Nat) (d : TypeDesc) (hg : w.heap[g]? = some (.cells cs t fr))
    (hu : P.underlying ty = some d) (hd : (match d with | .struct _ | .array _ _ => true | _ => false) = true) (hi : (P.info? ty).map (·.size) = some cs.size)
    (h : wpList P ops Q rest (a.put op.dst (.agg cs)) w) : wpList P ops Q (op :: rest) a w :=
  wpList_step fun _ hK => by
    rw [if_pos hw]
    unfold Oper.wp execOp
    simp only [ho, hx, Instr.loadAt, Instr.sureAddr, Sem.run_bind, Sem.run_pure, Result.andThen_ok, run_loadVar_row w g t ty cs fr d hg hu hd hi]
    exact hK _ _ h
set_option maxRecDepth 100000 in
set_option maxHeartbeats 8000000 in
theorem writes_walk (n1 n2 a b : Nat) (x1 x2 old now : List Int) (v1 v2 : Value) (w : World) (h1 : Rd w v1 n1 16 (u8s x1)) (h2 : Rd w v2 n2 16 (u8s x2)) (ha : a < 256) (hb : b < 256) (ho : old.length = 16) (hn : now.length = 16) :
    Calls Try.prog 3 #[v1, v2, .int .u8 (a : Int), .int .u8 (b : Int), sval old, sval now] w fun e w' => e = .returned (.bool true) ∧ Below w.heap.size w w' := by
  obtain ⟨A1, c1, rfl, hm1⟩ : ∃ A cp, v1 = .slice A n1 cp ∧ n1 ≤ 9223372036854775807 := by
    obtain ⟨_, A, cp, h1, h2, h3, _⟩ := h1; exact ⟨A, cp, h1, by unfold maxLen at h3; omega⟩
  obtain ⟨A2, c2, rfl, hm2⟩ : ∃ A cp, v2 = .slice A n2 cp ∧ n2 ≤ 9223372036854775807 := by
    obtain ⟨_, A, cp, h1, h2, h3, _⟩ := h2; exact ⟨A, cp, h1, by unfold maxLen at h3; omega⟩
  have hB0 := Wd.two_below w (.cells (u8s old).toArray 24) (.cells (u8s now).toArray 24)
  have hX0 := Wd.two_first w (.cells (u8s old).toArray 24) (.cells (u8s now).toArray 24)
  have hY0 := Wd.two_last w (.cells (u8s old).toArray 24) (.cells (u8s now).toArray 24)
  have HN := Lib.hid (fun W => new_unit 40 (by decide) (by decide) W)
  have HA := Lib.hid (fun W => awake_any W)
  have H1 := Lib.hid h1
  have H2 := Lib.hid h2
  have HOL := Lib.hid ho
  have HNL := Lib.hid hn
  clear h1 h2 ho hn
  unfold sval
  go_enter Try.func3, Try.ntmps3
  go_upto_region 1 with (fail)
  change Code.wp _ _ _ _ ((w.alloc (.cells (u8s old).toArray 24)).alloc (.cells (u8s now).toArray 24))
  generalize (w.alloc (.cells (u8s old).toArray 24)).alloc (.cells (u8s now).toArray 24) = w0 at *
  have HB0 := Lib.hid hB0
  have HX0 := Lib.hid hX0
  have HY0 := Lib.hid hY0
  clear hB0 hX0 hY0
  go_wp2_with (fail)
  refine (HN.out _).mono ?_
  rintro e wa ⟨g, gd, gs, rfl, hu, hg, hgd, hgs, hba⟩
  have HU := Lib.hid hu
  have HB := Lib.hid hba
  clear hu hba
  go_wp2_with (fail)
  refine (HA.out _).mono ?_
  rintro e wb ⟨rfl, hbb⟩
  have HU1 := Lib.hid (HU.out.below hbb)
  have HB1 := Lib.hid (HB.out.trans (hbb.mono HB.out.size))
  clear hbb HU HB HN HA
  go_upto_region 5 with (fail)
  obtain ⟨p, hpe, hp⟩ : ∃ p : Nat, (a : Int) % 45 = (p : Int) ∧ p < 45 := ⟨a % 45, by omega, by omega⟩
  obtain ⟨r, hre, hr⟩ : ∃ r : Nat, (b : Int) % 45 = (r : Int) ∧ r < 45 := ⟨b % 45, by omega, by omega⟩
  rw [hpe, hre]
  clear hpe hre
  go_wp2_with (fail)
  refine (do_any g gd gs Dk.new 40 (List.replicate (40 * 16) 0) 1 (wcmd p n1 x1) (.slice A1 n1 c1) _ HU1.out (H1.out.below (HB0.out.trans (HB1.out.mono HB0.out.size)))).mono ?_
  rw [(wdo (d := Dk.new) (ini := 1) rfl ⟨by decide, by decide⟩ p n1 40 x1 (List.replicate (40 * 16) 0)).1, (wdo (d := Dk.new) (ini := 1) rfl ⟨by decide, by decide⟩ p n1 40 x1 (List.replicate (40 * 16) 0)).2.1, (wdo (d := Dk.new) (ini := 1) rfl ⟨by decide, by decide⟩ p n1 40 x1 (List.replicate (40 * 16) 0)).2.2.1, (wdo (d := Dk.new) (ini := 1) rfl ⟨by decide, by decide⟩ p n1 40 x1 (List.replicate (40 * 16) 0)).2.2.2.1, (wdo (d := Dk.new) (ini := 1) rfl ⟨by decide, by decide⟩ p n1 40 x1 (List.replicate (40 * 16) 0)).2.2.2.2]
  rintro e wd1 ⟨dv1, rfl, ho1, hu1, hf1⟩
  obtain ⟨D1, e1, rfl, -, -⟩ := Wd.own_form ho1
  obtain ⟨st1, se1, hst1⟩ : ∃ st se, (if wok n1 p 40 then ((1 : Int), (0 : Int)) else (2, 5)) = (st, se) := ⟨_, _, rfl⟩
  rw [hst1]
  have HST1 := Lib.hid hst1
  have hfb1 := Only.below HB1.out hf1 HB1.out.size (by simp; omega)
  clear ho1 hst1
  go_upto_region 6 with (first
    | (refine wpList_store_row rfl 31 _ _ rfl wd1.heap.size _ rfl rfl 31 _ (heap_alloc_new wd1 _) (by kernel_rfl) rfl (rep_one3 _ _ _ _ _) ?_))
  have hX1 := Bo.start wd1 st1 se1 (.slice D1 0 e1)
  change Code.wp _ _ _ _ ((wd1.alloc (.cells (rep 0 0) 31)).setRow wd1.heap.size #[.int .i64 st1, .int .i64 se1, .slice D1 0 e1])
  have HUd1 := Lib.hid (hu1.below hX1.bel)
  have HBd1 := Lib.hid (hfb1.trans (hX1.bel.mono hfb1.size))
  have HXd1 := Lib.hid hX1.box
  have HLq1 := Lib.hid (And.intro hu1.d.lt (lt_of_heap hu1.s))
  have HFR1 := Lib.hid (hf1.trans (Only.of_below hX1.bel []) (by simp))
  have HLd1 := Lib.hid hfb1.size
  clear hX1 hu1 hfb1 hf1
  generalize (wd1.alloc (.cells (rep 0 0) 31)).setRow wd1.heap.size #[.int .i64 st1, .int .i64 se1, .slice D1 0 e1] = wx1 at *
  generalize wd1.heap.size = q1 at *
  obtain ⟨bs1, hbs1⟩ : ∃ bs1, bs1 = (if wok n1 p 40 then splice (List.replicate (40 * 16) 0) (p * 16) x1 else List.replicate (40 * 16) 0) := ⟨_, rfl⟩
  rw [← hbs1] at HUd1
  have HBS1 := Lib.hid hbs1
  clear hbs1 HU1 HB1
  go_wp2_with (fail)
  refine (do_any g gd gs Dk.new 40 bs1 2 (wcmd r n2 x2) (.slice A2 n2 c2) _ HUd1.out (H2.out.below (HB0.out.trans (HBd1.out.mono HB0.out.size)))).mono ?_
  rw [(wdo (d := Dk.new) (ini := 2) rfl ⟨by decide, by decide⟩ r n2 40 x2 bs1).1, (wdo (d := Dk.new) (ini := 2) rfl ⟨by decide, by decide⟩ r n2 40 x2 bs1).2.1, (wdo (d := Dk.new) (ini := 2) rfl ⟨by decide, by decide⟩ r n2 40 x2 bs1).2.2.1, (wdo (d := Dk.new) (ini := 2) rfl ⟨by decide, by decide⟩ r n2 40 x2 bs1).2.2.2.1, (wdo (d := Dk.new) (ini := 2) rfl ⟨by decide, by decide⟩ r n2 40 x2 bs1).2.2.2.2]
  rintro e wd2 ⟨dv2, rfl, ho2, hu2, hf2⟩
  obtain ⟨D2, e2, rfl, -, -⟩ := Wd.own_form ho2
  obtain ⟨st2, se2, hst2⟩ : ∃ st se, (if wok n2 r 40 then ((1 : Int), (0 : Int)) else (2, 5)) = (st, se) := ⟨_, _, rfl⟩
  rw [hst2]
  have HST2 := Lib.hid hst2
  have hfb2 := Only.below HBd1.out hf2 HBd1.out.size (by simp; omega)
  clear ho2 hst2
  go_upto_region 7 with (first
    | (refine wpList_store_row rfl 31 _ _ rfl wd2.heap.size _ rfl rfl 31 _ (heap_alloc_new wd2 _) (by kernel_rfl) rfl (rep_one3 _ _ _ _ _) ?_))
  have hX2 := Bo.start wd2 st2 se2 (.slice D2 0 e2)
  change Code.wp _ _ _ _ ((wd2.alloc (.cells (rep 0 0) 31)).setRow wd2.heap.size #[.int .i64 st2, .int .i64 se2, .slice D2 0 e2])
  have HUd2 := Lib.hid (hu2.below hX2.bel)
  have HBd2 := Lib.hid (hfb2.trans (hX2.bel.mono hfb2.size))
  have HXd2 := Lib.hid hX2.box
  have HLq2 := Lib.hid (And.intro hu2.d.lt (lt_of_heap hu2.s))
  have HFR2 := Lib.hid (hf2.trans (Only.of_below hX2.bel []) (by simp))
  have HLd2 := Lib.hid hfb2.size
  clear hX2 hu2 hfb2 hf2
  generalize (wd2.alloc (.cells (rep 0 0) 31)).setRow wd2.heap.size #[.int .i64 st2, .int .i64 se2, .slice D2 0 e2] = wx2 at *
  generalize wd2.heap.size = q2 at *
  have HXe1 := Lib.hid ((HFR2.out.block q1 (lt_of_heap HXd1.out) (by have := HLq1.out; simp; omega)).trans HXd1.out)
  simp only [Act.put]
  go_cut [19] (fun v wc' => v = .bool (decide (wok n1 p 40)) ∧ wx2 = wc')
  case first =>
    as_aux_lemma =>
      have hok := Lib.hid (show wok n1 p 40 ↔ (1 ≤ n1 ∧ n1 ≤ 8 ∧ p + n1 ≤ 40) from Iff.rfl)
      by_cases f1 : 1 ≤ n1
      · by_cases f2 : n1 ≤ 8
        · by_cases f3 : p + n1 ≤ 40
          · have HD := Lib.hid (decide_eq_true (hok.out.2 ⟨f1, f2, f3⟩))
            have g1 : (1 : Int) ≤ (n1 : Int) := by omega
            have g2 : (n1 : Int) ≤ 8 := by omega
            have g3 : (p : Int) + (n1 : Int) ≤ 40 := by omega
            clear hok
            go_wp2_with (fail)
            go_meet
            exact ⟨congrArg Value.bool HD.out.symm, rfl⟩
          · have HD := Lib.hid (decide_eq_false (fun h => f3 (hok.out.1 h).2.2))
            have g1 : (1 : Int) ≤ (n1 : Int) := by omega
            have g2 : (n1 : Int) ≤ 8 := by omega
            have g3 : ¬ (p : Int) + (n1 : Int) ≤ 40 := by omega
            clear hok
            go_wp2_with (fail)
            go_meet
            exact ⟨congrArg Value.bool HD.out.symm, rfl⟩
        · have HD := Lib.hid (decide_eq_false (fun h => f2 (hok.out.1 h).2.1))
          have g1 : (1 : Int) ≤ (n1 : Int) := by omega
          have g2 : ¬ (n1 : Int) ≤ 8 := by omega
          clear hok
          go_wp2_with (fail)
          go_meet
          exact ⟨congrArg Value.bool HD.out.symm, rfl⟩
      · have HD := Lib.hid (decide_eq_false (fun h => f1 (hok.out.1 h).1))
        have g1 : ¬ (1 : Int) ≤ (n1 : Int) := by omega
        clear hok
        go_wp2_with (fail)
        go_meet
        exact ⟨congrArg Value.bool HD.out.symm, rfl⟩
  case rest =>
    obtain ⟨rfl, rfl⟩ := hcut
    go_upto_region 8 with (fail)
    go_cut [20] (fun v wc' => v = .bool (decide (wok n2 r 40)) ∧ wx2 = wc')
    case first =>
      as_aux_lemma =>
        have hok := Lib.hid (show wok n2 r 40 ↔ (1 ≤ n2 ∧ n2 ≤ 8 ∧ r + n2 ≤ 40) from Iff.rfl)
        by_cases f1 : 1 ≤ n2
        · by_cases f2 : n2 ≤ 8
          · by_cases f3 : r + n2 ≤ 40
            · have HD := Lib.hid (decide_eq_true (hok.out.2 ⟨f1, f2, f3⟩))
              have g1 : (1 : Int) ≤ (n2 : Int) := by omega
              have g2 : (n2 : Int) ≤ 8 := by omega
              have g3 : (r : Int) + (n2 : Int) ≤ 40 := by omega
              clear hok
              go_wp2_with (fail)
              go_meet
              exact ⟨congrArg Value.bool HD.out.symm, rfl⟩
            · have HD := Lib.hid (decide_eq_false (fun h => f3 (hok.out.1 h).2.2))
              have g1 : (1 : Int) ≤ (n2 : Int) := by omega
              have g2 : (n2 : Int) ≤ 8 := by omega
              have g3 : ¬ (r : Int) + (n2 : Int) ≤ 40 := by omega
              clear hok
              go_wp2_with (fail)
              go_meet
              exact ⟨congrArg Value.bool HD.out.symm, rfl⟩
          · have HD := Lib.hid (decide_eq_false (fun h => f2 (hok.out.1 h).2.1))
            have g1 : (1 : Int) ≤ (n2 : Int) := by omega
            have g2 : ¬ (n2 : Int) ≤ 8 := by omega
            clear hok
            go_wp2_with (fail)
            go_meet
            exact ⟨congrArg Value.bool HD.out.symm, rfl⟩
        · have HD := Lib.hid (decide_eq_false (fun h => f1 (hok.out.1 h).1))
          have g1 : ¬ (1 : Int) ≤ (n2 : Int) := by omega
          clear hok
          go_wp2_with (fail)
          go_meet
          exact ⟨congrArg Value.bool HD.out.symm, rfl⟩
    case rest =>
      obtain ⟨rfl, rfl⟩ := hcut
      go_upto_region 9 with (fail)
      obtain ⟨okx, hokx⟩ : ∃ okx, okx = decide (wok n1 p 40) := ⟨_, rfl⟩
      obtain ⟨oky, hoky⟩ : ∃ oky, oky = decide (wok n2 r 40) := ⟨_, rfl⟩
      rw [← hokx, ← hoky]
      have HOX := Lib.hid hokx
      have HOY := Lib.hid hoky
      clear hokx hoky
      go_cut [111] (fun v wc' => v = .bool false ∧ wx2 = wc')
      case first =>
        as_aux_lemma =>
          have e0 : wx2.cell? ⟨q1, 0, none⟩ = some (.int .i64 st1) := by rw [cell_of_heap HXe1.out]; rfl
          have e1 : wx2.cell? ⟨q1, 1, none⟩ = some (.int .i64 se1) := by rw [cell_of_heap HXe1.out]; rfl
          have e2 : wx2.cell? ⟨q2, 0, none⟩ = some (.int .i64 st2) := by rw [cell_of_heap HXd2.out]; rfl
          have key : ∀ (ok : Bool) (n r : Nat) (st se : Int), ok = decide (wok n r 40) → (if wok n r 40 then ((1 : Int), (0 : Int)) else (2, 5)) = (st, se) → (ok = true ∧ st = 1 ∧ se = 0) ∨ (ok = false ∧ st = 2 ∧ se = 5) := fun ok n r st se h1 h2 => by
            by_cases hw : wok n r 40
            · rw [if_pos hw] at h2; injection h2 with q1 q2
              exact .inl ⟨by rw [h1, decide_eq_true hw], q1.symm, q2.symm⟩
            · rw [if_neg hw] at h2; injection h2 with q1 q2
              exact .inr ⟨by rw [h1, decide_eq_false hw], q1.symm, q2.symm⟩
          rcases key okx n1 p st1 se1 HOX.out HST1.out with ⟨ex, es, ee⟩ | ⟨ex, es, ee⟩ <;> rcases key oky n2 r st2 se2 HOY.out HST2.out with ⟨ey, es2, ee2⟩ | ⟨ey, es2, ee2⟩ <;> subst ex es ee ey es2 ee2 <;> clear key <;>
          (go_wp2_with (fail)
           go_meet
           exact ⟨rfl, rfl⟩)
      case rest =>
        obtain ⟨rfl, rfl⟩ := hcut
        obtain ⟨bs2, hbs2⟩ : ∃ bs2, bs2 = (if wok n2 r 40 then splice bs1 (r * 16) x2 else bs1) := ⟨_, rfl⟩
        rw [← hbs2] at HUd2
        have HBS2 := Lib.hid hbs2
        clear hbs2 HST1 HST2 HXe1 HXd1 HXd2 HLq1 HLq2 HFR1 HFR2
        go_wp2_with (fail)
        go_loopg [21] (40) (fun q v21 wr => ∃ i : Nat, i ≤ 40 ∧ v21 = .int .i64 (i : Int) ∧ q = 40 - i ∧ Below wx2.heap.size wx2 wr)
        case atStart => exact ⟨0, by omega, rfl, rfl, Below.refl _ _⟩
        case round =>
          obtain ⟨i, hi, rfl, hq, hb2⟩ := hrel
          have HQ := Lib.hid hq
          have HB2 := Lib.hid hb2
          have HUr := Lib.hid (HUd2.out.below hb2)
          have HBr := Lib.hid (HBd2.out.trans (hb2.mono HBd2.out.size))
          clear hq hb2
          by_cases hlt : i < 40
          · as_aux_lemma =>
              go_upto_region 15 with (first
                | (refine wpList_store_row rfl 24 _ _ rfl wr.heap.size _ rfl rfl 24 _ (heap_alloc_new wr _) (by kernel_rfl) rfl zsec_one ?_))
              have hS := So.start wr zsec
              have HBX := Lib.hid hS.box
              have HB15 := Lib.hid hS.bel
              have HLr := Lib.hid (show w0.heap.size ≤ wr.heap.size from HBr.out.size)
              clear hS
              change Code.wp _ _ _ _ ((wr.alloc (.cells zlit 24)).setRow wr.heap.size (u8s zsec).toArray)
              generalize (wr.alloc (.cells zlit 24)).setRow wr.heap.size (u8s zsec).toArray = w15 at *
              generalize hb22 : wr.heap.size = b22 at *
              simp only [Act.put]
              go_cut [130] (fun v wc' => w15 = wc' ∧ ∃ qq : Bool, v = .bool qq ∧ (qq = true ↔ (((okx = true ∧ p ≤ i) ∧ i < p + n1))))
              case first =>
                as_aux_lemma =>
                  cases okx with
                  | false =>
                    go_wp2_with (fail)
                    go_meet
                    exact ⟨rfl, false, rfl, by simp⟩
                  | true =>
                    have HOK2 := Lib.hid (of_decide_eq_true (Eq.symm HOX.out))
                    have hn8 : n1 ≤ 8 ∧ p + n1 ≤ 40 := HOK2.out.2
                    by_cases f1 : p ≤ i
                    · have g1 : (p : Int) ≤ (i : Int) := by omega
                      by_cases f2 : i < p + n1
                      · have g2 : (i : Int) < (p : Int) + (n1 : Int) := by omega
                        go_wp2_with (fail)
                        go_meet
                        exact ⟨rfl, true, rfl, by simp [f1, f2]⟩
                      · have g2 : ¬ (i : Int) < (p : Int) + (n1 : Int) := by omega
                        go_wp2_with (fail)
                        go_meet
                        exact ⟨rfl, false, rfl, by simp [f2]⟩
                    · have g1 : ¬ (p : Int) ≤ (i : Int) := by omega
                      go_wp2_with (fail)
                      go_meet
                      exact ⟨rfl, false, rfl, by simp [f1]⟩
              case rest =>
                obtain ⟨rfl, qq, rfl, hqq⟩ := hcut
                have HQQ := Lib.hid hqq
                clear hqq
                rename_i hcont
                refine hcont _ _ ?_
                go_cut [130] (fun v wc' => (∃ qq : Bool, v = .bool qq) ∧ ∃ l1, l1 = (if (((okx = true ∧ p ≤ i) ∧ i < p + n1)) then sec x1 (i - p) else zsec) ∧ wc'.heap[b22]? = some (.cells (u8s l1).toArray 24 (0, 0)) ∧ Below b22 wr wc')
                case first =>
                  as_aux_lemma =>
                    cases qq with
                    | true =>
                      have HP := Lib.hid (HQQ.out.1 rfl)
                      have HOK2 : Hid (wok n1 p 40) := Lib.hid (of_decide_eq_true (Eq.symm (HP.out.1.1 ▸ HOX.out)))
                      obtain ⟨k, hk⟩ : ∃ k, i = p + k := ⟨i - p, by have := HP.out.1.2; omega⟩
                      have hkn : k < n1 := by have := HP.out.2; omega
                      have hsub : (i : Int) - (p : Int) = (k : Int) := by omega
                      have hki : i - p = k := by omega
                      obtain ⟨b, off, hA⟩ : ∃ b off, A1 = some ⟨b, off, none⟩ := by
                        obtain ⟨_, A', cap, hv, _, _, _, h2⟩ := H1.out
                        injection hv with e1
                        subst e1
                        obtain ⟨b, off, hA, _⟩ := h2 (by omega)
                        exact ⟨b, off, hA⟩
                      subst hA
                      have HR : Hid (w15.rangeAt b (off + k * 16) (u8s (sec x1 k))) := Lib.hid (Wd.Rd.at H1.out (show Below w.heap.size w w15 from HB0.out.trans ((HBr.out.trans (HB15.out.mono HLr.out)).mono HB0.out.size)) hkn)
                      have hxl : x1.length = n1 * 16 := by have := H1.out.len; rwa [u8s_len] at this
                      have hsl : (sec x1 k).length = 16 := sec_len hxl hkn
                      have HI : Hid ((Try.prog.info? 24).map (·.size) = some (u8s (sec x1 k)).length) := Lib.hid (by rw [u8s_len, hsl]; exact info24)
                      have HI2 : Hid ((Try.prog.info? 24).map (·.size) = some (u8s (sec x1 k)).toArray.size) := Lib.hid (by simp only [List.size_toArray]; rw [u8s_len, hsl]; exact info24)
                      have HSZ : Hid ((u8s zsec).toArray.size = (u8s (sec x1 k)).toArray.size) := Lib.hid (by simp only [List.size_toArray]; rw [u8s_len, u8s_len, hsl, (show zsec.length = 16 from rfl)])
                      have hkI : (k : Int) < (n1 : Int) := by omega
                      have HLN : Hid (sec x1 k = if (((okx = true ∧ p ≤ i) ∧ i < p + n1)) then sec x1 (i - p) else zsec) := Lib.hid (by rw [if_pos HP.out, hki])
                      clear hk hki hxl hsl
                      go_wp2_with (first
                        | (refine wpList_load_mid rfl 24 _ rfl b (off + k * 16) rfl (u8s (sec x1 k)) _ HR.out Try.underlying24 rfl HI.out ?_)
                        | (refine wpList_store_row rfl 24 _ _ rfl b22 _ rfl rfl 24 _ HBX.out HI2.out HSZ.out (u8s_all _) ?_))
                      go_meet
                      exact ⟨⟨_, rfl⟩, sec x1 k, HLN.out, Wd.heap_setRow HBX.out _, Only.below HB15.out (Only.setRow _) (by have := lt_of_heap HBX.out; omega) (by simp)⟩
                    | false =>
                      have HP : Hid (¬ (((okx = true ∧ p ≤ i) ∧ i < p + n1))) := Lib.hid (fun h => by have := HQQ.out.2 h; cases this)
                      have HLN : Hid (zsec = if (((okx = true ∧ p ≤ i) ∧ i < p + n1)) then sec x1 (i - p) else zsec) := Lib.hid (by rw [if_neg HP.out])
                      go_wp2_with (fail)
                      go_meet
                      exact ⟨⟨_, rfl⟩, zsec, HLN.out, HBX.out, HB15.out⟩
                case rest =>
                  obtain ⟨⟨q16, rfl⟩, l1, hl1, hx1, hb1⟩ := hcut
                  obtain ⟨w16, rfl⟩ : ∃ W : World, W = wc := ⟨_, rfl⟩
                  have HL1 := Lib.hid hl1
                  have HX1 := Lib.hid hx1
                  have HW1 := Lib.hid hb1
                  have HLL1 : Hid (l1.length = 16) := Lib.hid (by
                    rw [hl1]
                    split
                    · next hh => exact sec_len (n := n1) (by have := H1.out.len; rwa [u8s_len] at this) (by have := hh.2; have := hh.1.2; omega)
                    · rfl)
                  clear hl1 hx1 hb1 HQQ HBX HB15
                  go_upto_region 17 with (fail)
                  go_cut [150] (fun v wc' => w16 = wc' ∧ ∃ qq : Bool, v = .bool qq ∧ (qq = true ↔ (((oky = true ∧ r ≤ i) ∧ i < r + n2))))
                  case first =>
                    as_aux_lemma =>
                      cases oky with
                      | false =>
                        go_wp2_with (fail)
                        go_meet
                        exact ⟨rfl, false, rfl, by simp⟩
                      | true =>
                        have HOK2 := Lib.hid (of_decide_eq_true (Eq.symm HOY.out))
                        have hn8 : n2 ≤ 8 ∧ r + n2 ≤ 40 := HOK2.out.2
                        by_cases f1 : r ≤ i
                        · have g1 : (r : Int) ≤ (i : Int) := by omega
                          by_cases f2 : i < r + n2
                          · have g2 : (i : Int) < (r : Int) + (n2 : Int) := by omega
                            go_wp2_with (fail)
                            go_meet
                            exact ⟨rfl, true, rfl, by simp [f1, f2]⟩
                          · have g2 : ¬ (i : Int) < (r : Int) + (n2 : Int) := by omega
                            go_wp2_with (fail)
                            go_meet
                            exact ⟨rfl, false, rfl, by simp [f2]⟩
                        · have g1 : ¬ (r : Int) ≤ (i : Int) := by omega
                          go_wp2_with (fail)
                          go_meet
                          exact ⟨rfl, false, rfl, by simp [f1]⟩
                  case rest =>
                    obtain ⟨rfl, qq, rfl, hqq⟩ := hcut
                    have HQQ := Lib.hid hqq
                    clear hqq
                    rename_i hcont
                    refine hcont _ _ ?_
                    go_cut [150] (fun v wc' => (∃ qq : Bool, v = .bool qq) ∧ ∃ l2, l2 = (if (((oky = true ∧ r ≤ i) ∧ i < r + n2)) then sec x2 (i - r) else l1) ∧ wc'.heap[b22]? = some (.cells (u8s l2).toArray 24 (0, 0)) ∧ Below b22 wr wc')
                    case first =>
                      as_aux_lemma =>
                        cases qq with
                        | true =>
                          have HP := Lib.hid (HQQ.out.1 rfl)
                          have HOK2 : Hid (wok n2 r 40) := Lib.hid (of_decide_eq_true (Eq.symm (HP.out.1.1 ▸ HOY.out)))
                          obtain ⟨k, hk⟩ : ∃ k, i = r + k := ⟨i - r, by have := HP.out.1.2; omega⟩
                          have hkn : k < n2 := by have := HP.out.2; omega
                          have hsub : (i : Int) - (r : Int) = (k : Int) := by omega
                          have hki : i - r = k := by omega
                          obtain ⟨b, off, hA⟩ : ∃ b off, A2 = some ⟨b, off, none⟩ := by
                            obtain ⟨_, A', cap, hv, _, _, _, h2⟩ := H2.out
                            injection hv with e1
                            subst e1
                            obtain ⟨b, off, hA, _⟩ := h2 (by omega)
                            exact ⟨b, off, hA⟩
                          subst hA
                          have HR : Hid (w16.rangeAt b (off + k * 16) (u8s (sec x2 k))) := Lib.hid (Wd.Rd.at H2.out (show Below w.heap.size w w16 from HB0.out.trans ((HBr.out.trans (HW1.out.mono HLr.out)).mono HB0.out.size)) hkn)
                          have hxl : x2.length = n2 * 16 := by have := H2.out.len; rwa [u8s_len] at this
                          have hsl : (sec x2 k).length = 16 := sec_len hxl hkn
                          have HI : Hid ((Try.prog.info? 24).map (·.size) = some (u8s (sec x2 k)).length) := Lib.hid (by rw [u8s_len, hsl]; exact info24)
                          have HI2 : Hid ((Try.prog.info? 24).map (·.size) = some (u8s (sec x2 k)).toArray.size) := Lib.hid (by simp only [List.size_toArray]; rw [u8s_len, hsl]; exact info24)
                          have HSZ : Hid ((u8s l1).toArray.size = (u8s (sec x2 k)).toArray.size) := Lib.hid (by simp only [List.size_toArray]; rw [u8s_len, u8s_len, hsl, HLL1.out])
                          have hkI : (k : Int) < (n2 : Int) := by omega
                          have HLN : Hid (sec x2 k = if (((oky = true ∧ r ≤ i) ∧ i < r + n2)) then sec x2 (i - r) else l1) := Lib.hid (by rw [if_pos HP.out, hki])
                          clear hk hki hxl hsl
                          go_wp2_with (first
                            | (refine wpList_load_mid rfl 24 _ rfl b (off + k * 16) rfl (u8s (sec x2 k)) _ HR.out Try.underlying24 rfl HI.out ?_)
                            | (refine wpList_store_row rfl 24 _ _ rfl b22 _ rfl rfl 24 _ HX1.out HI2.out HSZ.out (u8s_all _) ?_))
                          go_meet
                          exact ⟨⟨_, rfl⟩, sec x2 k, HLN.out, Wd.heap_setRow HX1.out _, Only.below HW1.out (Only.setRow _) (by have := lt_of_heap HX1.out; omega) (by simp)⟩
                        | false =>
                          have HP : Hid (¬ (((oky = true ∧ r ≤ i) ∧ i < r + n2))) := Lib.hid (fun h => by have := HQQ.out.2 h; cases this)
                          have HLN : Hid (l1 = if (((oky = true ∧ r ≤ i) ∧ i < r + n2)) then sec x2 (i - r) else l1) := Lib.hid (by rw [if_neg HP.out])
                          go_wp2_with (fail)
                          go_meet
                          exact ⟨⟨_, rfl⟩, l1, HLN.out, HX1.out, HW1.out⟩
                    case rest =>
                      obtain ⟨⟨q18, rfl⟩, l2, hl2, hx2, hb2⟩ := hcut
                      obtain ⟨w18, rfl⟩ : ∃ W : World, W = wc := ⟨_, rfl⟩
                      have HX2 := Lib.hid hx2
                      have HW2 := Lib.hid hb2
                      have hbi := HBS2.out
                      have hwant : sec bs2 i = l2 := by
                        rw [HBS2.out, HBS1.out, want_holds n1 n2 p r x1 x2 (by have := H1.out.len; rwa [u8s_len] at this) (by have := H2.out.len; rwa [u8s_len] at this) i hlt, hl2, HL1.out]
                        unfold want
                        rw [HOX.out, HOY.out]
                        simp only [decide_eq_true_eq, and_assoc]
                      have HWA := Lib.hid hwant
                      clear hl2 hx2 hb2 hbi hwant HQQ HX1 HW1 HL1 HLL1
                      have hl2l : l2.length = 16 := by rw [← HWA.out]; exact sec_len HUr.out.len hlt
                      have HU18 := Lib.hid (HUr.out.below (by rw [hb22]; exact HW2.out))
                      have HI := Lib.hid (show (Try.prog.info? 24).map (·.size) = some (u8s l2).toArray.size from by simp only [List.size_toArray]; rw [u8s_len, hl2l]; exact info24)
                      have HSZ : Hid (zlit.size = (u8s l2).toArray.size) := Lib.hid (by simp only [List.size_toArray]; rw [u8s_len, hl2l]; rfl)
                      have HE := Lib.hid (fun W => (Wd.eq_sec hl2l hl2l W).trans (by rw [decide_eq_true rfl]))
                      have heg := Wd.eqGuard41
                      clear hl2l
                      go_wp2_with (fail)
                      refine (sector_in g gd gs Dk.new 40 i bs2 _ HU18.out hlt).mono ?_
                      rw [HWA.out]
                      rintro e w19 ⟨rfl, hb19⟩
                      have HX3 := Lib.hid ((hb19.block b22 (lt_of_heap HX2.out)).trans HX2.out)
                      have HB19 := Lib.hid (HW2.out.trans (hb19.mono (by have := lt_of_heap HX2.out; omega)))
                      clear hb19 HX2 HW2 HU18
                      unfold sval
                      go_upto_region 20 with (first
                        | (refine wpList_store_row rfl 24 _ _ rfl w19.heap.size _ rfl rfl 24 _ (heap_alloc_new w19 _) HI.out HSZ.out (u8s_all _) ?_))
                      have hS := So.start w19 l2
                      have HX4 := Lib.hid ((hS.bel.block b22 (lt_of_heap HX3.out)).trans HX3.out)
                      have HY4 := Lib.hid hS.box
                      have HB20 := Lib.hid (HB19.out.trans (hS.bel.mono (by have := lt_of_heap HX3.out; omega)))
                      change Code.wp _ _ _ _ ((w19.alloc (.cells zlit 24)).setRow w19.heap.size (u8s l2).toArray)
                      clear hS HX3 HB19
                      generalize (w19.alloc (.cells zlit 24)).setRow w19.heap.size (u8s l2).toArray = w20 at *
                      generalize w19.heap.size = b23 at *
                      have q := HE.out w20
                      go_wp2_with (first
                        | (refine wpList_load_row_w rfl 24 _ rfl b23 rfl 24 _ (0, 0) _ HY4.out Try.underlying24 rfl HI.out ?_)
                        | (refine wpList_load_row_w rfl 24 _ rfl b22 rfl 24 _ (0, 0) _ HX4.out Try.underlying24 rfl HI.out ?_))
                      go_roundg (40 - (i + 1))
                      case measure => have := HQ.out; omega
                      case rel => exact ⟨i + 1, by omega, by go_num, rfl, HB2.out.trans (HB20.out.mono (by have := HB2.out.size; omega))⟩
          · obtain rfl : i = 40 := by omega
            as_aux_lemma =>
              clear HQ HB2 hlt hi
              obtain ⟨k, hke, hk⟩ : ∃ k : Nat, (p : Int) % 40 = (k : Int) ∧ k < 40 := ⟨p % 40, by omega, by omega⟩
              go_upto_region 23 with (fail)
              rw [hke]
              clear hke
              have hsl := sec_len HUr.out.len hk
              have HI := Lib.hid (show (Try.prog.info? 24).map (·.size) = some (u8s (sec bs2 k)).toArray.size from by simp only [List.size_toArray]; rw [u8s_len, hsl]; exact info24)
              have HIO := Lib.hid (show (Try.prog.info? 24).map (·.size) = some (u8s old).toArray.size from by simp only [List.size_toArray]; rw [u8s_len, HOL.out]; exact info24)
              have HIN := Lib.hid (show (Try.prog.info? 24).map (·.size) = some (u8s now).toArray.size from by simp only [List.size_toArray]; rw [u8s_len, HNL.out]; exact info24)
              have HSZ : Hid (zlit.size = (u8s (sec bs2 k)).toArray.size) := Lib.hid (by simp only [List.size_toArray]; rw [u8s_len, hsl]; rfl)
              have HSL := Lib.hid hsl
              clear hsl
              go_wp2_with (fail)
              refine (sector_in g gd gs Dk.new 40 k bs2 _ HUr.out hk).mono ?_
              rintro e w23 ⟨rfl, hb23⟩
              have HU23 := Lib.hid (HUr.out.below hb23)
              have HB23 := Lib.hid (HBr.out.trans (hb23.mono HBr.out.size))
              clear hb23
              unfold sval
              go_upto_region 24 with (first
                | (refine wpList_store_row rfl 24 _ _ rfl w23.heap.size _ rfl rfl 24 _ (heap_alloc_new w23 _) HI.out HSZ.out (u8s_all _) ?_))
              have hS := So.start w23 (sec bs2 k)
              have HY24 := Lib.hid hS.box
              have HU24 := Lib.hid (HU23.out.below hS.bel)
              have HB24 := Lib.hid (HB23.out.trans (hS.bel.mono HB23.out.size))
              have HLB : Hid (gd < w23.heap.size ∧ gs < w23.heap.size) := Lib.hid ⟨HU23.out.d.lt, lt_of_heap HU23.out.s⟩
              change Code.wp _ _ _ _ ((w23.alloc (.cells zlit 24)).setRow w23.heap.size (u8s (sec bs2 k)).toArray)
              clear hS HU23 HB23 HSZ
              generalize (w23.alloc (.cells zlit 24)).setRow w23.heap.size (u8s (sec bs2 k)).toArray = w24 at *
              generalize w23.heap.size = b26 at *
              have HX24 := Lib.hid ((HB24.out.block _ (lt_of_heap HX0.out)).trans HX0.out)
              have HZ24 := Lib.hid ((HB24.out.block _ (lt_of_heap HY0.out)).trans HY0.out)
              have hbl := balloc w24 (.cells (u8s (old ++ now)).toArray 24)
              have hnx := heap_alloc_new w24 (.cells (u8s (old ++ now)).toArray 24)
              have hol : (old ++ now).length = 2 * 16 := by rw [List.length_append, HOL.out, HNL.out]
              have HBL := Lib.hid hbl
              have HNX := Lib.hid hnx
              have HOO := Lib.hid hol
              have HCD := Lib.hid (cdo (d := Dk.new) (ini := 3) rfl ⟨by decide, by decide⟩ k 40 hk old now bs2 HOL.out HNL.out)
              clear hbl hnx hol
              go_wp2_with (first
                | (refine wpList_load_row rfl 24 _ rfl w.heap.size rfl 24 _ (0, 0) _ HX24.out Try.underlying24 rfl HIO.out ?_)
                | (refine wpList_load_row rfl 24 _ rfl (w.heap.size + 1) rfl 24 _ (0, 0) _ HZ24.out Try.underlying24 rfl HIN.out ?_)
                | (refine wpList_build2 rfl (.tmp 180) (.tmp 181) rfl old now rfl rfl HOL.out HNL.out ?_))
              refine (do_any g gd gs Dk.new 40 bs2 3 (ccmd k old now) (.slice (some ⟨w24.heap.size, 0, none⟩) 2 2) _ (HU24.out.below HBL.out) (rd_lit (l := old ++ now) HNX.out HOO.out (by decide))).mono ?_
              rw [HCD.out.1, HCD.out.2.1, HCD.out.2.2.1, HCD.out.2.2.2.1, HCD.out.2.2.2.2]
              rintro e w25 ⟨dv3, rfl, ho3, hu3, hf3⟩
              obtain ⟨D3, e3, rfl, -, -⟩ := Wd.own_form ho3
              obtain ⟨st3, se3, hst3⟩ : ∃ st se, (if sec bs2 k = old then ((1 : Int), (0 : Int)) else (2, 14)) = (st, se) := ⟨_, _, rfl⟩
              obtain ⟨bs3, hbs3⟩ : ∃ bs3, bs3 = (if sec bs2 k = old then splice bs2 (k * 16) now else bs2) := ⟨_, rfl⟩
              rw [hst3]
              rw [← hbs3] at hu3
              have HST3 := Lib.hid hst3
              have HBS3 := Lib.hid hbs3
              have hfa := (Only.of_below HBL.out [gd, gs]).trans hf3 (fun x hx => .inl hx)
              have HFA := Lib.hid hfa
              have HB25 := Lib.hid (Only.below HB24.out hfa HB24.out.size (by simp; omega))
              have HY25 := Lib.hid ((hfa.block b26 (lt_of_heap HY24.out) (by have := HLB.out; simp; omega)).trans HY24.out)
              clear ho3 hf3 hst3 hbs3 hfa HCD HNX HOO HBL HX24 HZ24 HY24 HU24
              go_upto_region 25 with (first
                | (refine wpList_store_row rfl 31 _ _ rfl w25.heap.size _ rfl rfl 31 _ (heap_alloc_new w25 _) (by kernel_rfl) rfl (rep_one3 _ _ _ _ _) ?_))
              have hX := Bo.start w25 st3 se3 (.slice D3 0 e3)
              have HU26 := Lib.hid (hu3.below hX.bel)
              have HB26 := Lib.hid (HB25.out.trans (hX.bel.mono HB25.out.size))
              have HY26 := Lib.hid ((hX.bel.block b26 (lt_of_heap HY25.out)).trans HY25.out)
              have HZ26 := Lib.hid hX.box
              change Code.wp _ _ _ _ ((w25.alloc (.cells (rep 0 0) 31)).setRow w25.heap.size #[.int .i64 st3, .int .i64 se3, .slice D3 0 e3])
              clear hX hu3 HB25 HY25
              generalize (w25.alloc (.cells (rep 0 0) 31)).setRow w25.heap.size #[.int .i64 st3, .int .i64 se3, .slice D3 0 e3] = w26 at *
              generalize w25.heap.size = b28 at *
              have hsl3 := sec_len HU26.out.len hk
              have HI3 := Lib.hid (show (Try.prog.info? 24).map (·.size) = some (u8s (sec bs3 k)).toArray.size from by simp only [List.size_toArray]; rw [u8s_len, hsl3]; exact info24)
              have HSZ3 : Hid (zlit.size = (u8s (sec bs3 k)).toArray.size) := Lib.hid (by simp only [List.size_toArray]; rw [u8s_len, hsl3]; rfl)
              clear hsl3
              go_wp2_with (fail)
              refine (sector_in g gd gs Dk.new 40 k bs3 _ HU26.out hk).mono ?_
              rintro e w27 ⟨rfl, hb27⟩
              have HB27 := Lib.hid (HB26.out.trans (hb27.mono HB26.out.size))
              have HY27 := Lib.hid ((hb27.block b26 (lt_of_heap HY26.out)).trans HY26.out)
              have HZ27 := Lib.hid ((hb27.block b28 (lt_of_heap HZ26.out)).trans HZ26.out)
              clear hb27 HB26 HY26 HZ26
              unfold sval
              go_upto_region 26 with (first
                | (refine wpList_store_row rfl 24 _ _ rfl w27.heap.size _ rfl rfl 24 _ (heap_alloc_new w27 _) HI3.out HSZ3.out (u8s_all _) ?_))
              have hS := So.start w27 (sec bs3 k)
              have HV28 := Lib.hid hS.box
              have HB28 := Lib.hid (HB27.out.trans (hS.bel.mono HB27.out.size))
              have HY28 := Lib.hid ((hS.bel.block b26 (lt_of_heap HY27.out)).trans HY27.out)
              have HZ28 := Lib.hid ((hS.bel.block b28 (lt_of_heap HZ27.out)).trans HZ27.out)
              change Code.wp _ _ _ _ ((w27.alloc (.cells zlit 24)).setRow w27.heap.size (u8s (sec bs3 k)).toArray)
              clear hS HB27 HY27 HZ27 HSZ3
              generalize (w27.alloc (.cells zlit 24)).setRow w27.heap.size (u8s (sec bs3 k)).toArray = w28 at *
              generalize w27.heap.size = b29 at *
              have HX28 := Lib.hid ((HB28.out.block _ (lt_of_heap HX0.out)).trans HX0.out)
              have HN28 := Lib.hid ((HB28.out.block _ (lt_of_heap HY0.out)).trans HY0.out)
              have e0 : w28.cell? ⟨b28, 0, none⟩ = some (.int .i64 st3) := by rw [cell_of_heap HZ28.out]; rfl
              have e1 : w28.cell? ⟨b28, 1, none⟩ = some (.int .i64 se3) := by rw [cell_of_heap HZ28.out]; rfl
              have heg := Wd.eqGuard41
              have HEND := Lib.hid (HB0.out.trans (HB28.out.mono HB0.out.size))
              clear HB28 HZ28
              by_cases hE : sec bs2 k = old
              · have q1 := (Wd.eq_sec HSL.out HOL.out w28).trans (by rw [decide_eq_true hE])
                have hs3 := HST3.out
                rw [if_pos hE] at hs3
                injection hs3 with hs3 hs4
                subst hs3 hs4
                have hb3 : sec bs3 k = now := by
                  rw [HBS3.out, if_pos hE, sec_splice _ _ k 1 k (by rw [HNL.out]) (by have := HUr.out.len; omega), if_pos (by omega), Nat.sub_self]
                  unfold sec
                  rw [Nat.zero_mul, List.drop_zero, List.take_of_length_le (by rw [HNL.out]; omega)]
                rw [hb3] at HV28
                have q2 := (Wd.eq_sec HNL.out HNL.out w28).trans (by rw [decide_eq_true rfl])
                clear hE hb3
                go_wp2_with (first
                  | (refine wpList_load_row rfl 24 _ rfl b26 rfl 24 _ (0, 0) _ HY28.out Try.underlying24 rfl HI.out ?_)
                  | (refine wpList_load_row rfl 24 _ rfl w.heap.size rfl 24 _ (0, 0) _ HX28.out Try.underlying24 rfl HIO.out ?_)
                  | (refine wpList_load_row_w rfl 24 _ rfl b29 rfl 24 _ (0, 0) _ HV28.out Try.underlying24 rfl HIN.out ?_)
                  | (refine wpList_load_row_w rfl 24 _ rfl (w.heap.size + 1) rfl 24 _ (0, 0) _ HN28.out Try.underlying24 rfl HIN.out ?_))
                go_ret
                exact ⟨rfl, HEND.out⟩
              · have q1 := (Wd.eq_sec HSL.out HOL.out w28).trans (by rw [decide_eq_false hE])
                have hs3 := HST3.out
                rw [if_neg hE] at hs3
                injection hs3 with hs3 hs4
                subst hs3 hs4
                have hb3 : sec bs3 k = sec bs2 k := by rw [HBS3.out, if_neg hE]
                rw [hb3] at HV28
                have q2 := (Wd.eq_sec HSL.out HSL.out w28).trans (by rw [decide_eq_true rfl])
                clear hE hb3
                go_wp2_with (first
                  | (refine wpList_load_row rfl 24 _ rfl b26 rfl 24 _ (0, 0) _ HY28.out Try.underlying24 rfl HI.out ?_)
                  | (refine wpList_load_row rfl 24 _ rfl w.heap.size rfl 24 _ (0, 0) _ HX28.out Try.underlying24 rfl HIO.out ?_)
                  | (refine wpList_load_row_w rfl 24 _ rfl b29 rfl 24 _ (0, 0) _ HV28.out Try.underlying24 rfl HI.out ?_)
                  | (refine wpList_load_row_w rfl 24 _ rfl b26 rfl 24 _ (0, 0) _ HY28.out Try.underlying24 rfl HI.out ?_))
                go_ret
                exact ⟨rfl, HEND.out⟩
end Go.Proofs.Ytjpdjhmajjbgmaa.Md
