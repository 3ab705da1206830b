/- The walk of reserve's Preempt. -/
import Derived.Test.YtjpdjhmajjbgmaaDesk2
import Derived.Deep.LoopGhost
import Derived.BigQuiet
namespace Go.Proofs.Ytjpdjhmajjbgmaa.Res
open Go.RowKit
set_option linter.unusedVariables false
set_option maxRecDepth 100000 in
theorem u33 : ∃ e, Try.prog.underlying 44 = some (.array 16 e) ∧ (∀ W, Sem.run Try.prog (sizeOf e) W = .ok 1 W) ∧ (∀ W, Sem.run Try.prog (isAgg e) W = .ok false W) := ⟨_, rfl, fun _ => rfl, fun _ => rfl⟩
theorem idxAny (cs : Array Value) (x : Value) (i : Nat) (hi : cs[i]? = some x) (h16 : i < 16) (W : World) : (Instr.index 44 (.agg cs) (.int .i64 (i : Int))).run Try.prog W = .ok x W := by
  obtain ⟨e, hu, hs, ha⟩ := u33
  simp [Instr.index, run_underlying hu, asIntOf, hi, h16, hs, ha, go_sem, Result.andThen]
theorem idxKeys (d : Dk) (i : Nat) (hi : i < 16) (W : World) : (Instr.index 44 (.agg #[.int .u64 (d.key 0), .int .u64 (d.key 1), .int .u64 (d.key 2), .int .u64 (d.key 3), .int .u64 (d.key 4), .int .u64 (d.key 5), .int .u64 (d.key 6), .int .u64 (d.key 7), .int .u64 (d.key 8), .int .u64 (d.key 9), .int .u64 (d.key 10), .int .u64 (d.key 11), .int .u64 (d.key 12), .int .u64 (d.key 13), .int .u64 (d.key 14), .int .u64 (d.key 15)]) (.int .i64 (i : Int))).run Try.prog W = .ok (.int .u64 (d.key i)) W := by
  refine idxAny _ _ i ?_ hi W
  have h : i = 0 ∨ i = 1 ∨ i = 2 ∨ i = 3 ∨ i = 4 ∨ i = 5 ∨ i = 6 ∨ i = 7 ∨ i = 8 ∨ i = 9 ∨ i = 10 ∨ i = 11 ∨ i = 12 ∨ i = 13 ∨ i = 14 ∨ i = 15 := by omega
  rcases h with rfl | rfl | rfl | rfl | rfl | rfl | rfl | rfl | rfl | rfl | rfl | rfl | rfl | rfl | rfl | rfl <;> rfl
/-- Is j struck? -/
def Dk.hits (d : Dk) (n k : Int) (j : Nat) : Bool := decide ((j : Int) ≠ n) && decide (d.key j = k)
theorem others_succ (d : Dk) (n k : Int) (j : Nat) : d.others n k (j + 1) = (d.others n k j || d.hits n k j) := by
  unfold Dk.others Dk.hits; rw [List.range_succ, List.any_append]; simp
theorem held_succ (d : Dk) (n k : Int) (j : Nat) : d.held n k (j + 1) = (d.held n k j || (d.hits n k j && (decide (d.kind ≠ 0) && decide (d.holder = (j : Int))))) := by
  unfold Dk.held Dk.hits; rw [List.range_succ, List.any_append]; simp
theorem struck_length (d : Dk) (n k : Int) (j : Nat) : (d.struck n k j).length = 16 := by simp [Dk.struck]
theorem struck_zero (d : Dk) (n k : Int) (hl : d.keys.length = 16) : d.struck n k 0 = d.keys := by
  apply List.ext_getElem?
  intro i
  unfold Dk.struck
  rw [List.getElem?_map]
  by_cases hi : i < 16
  · rw [List.getElem?_range hi]
    simp only [Option.map_some, Nat.not_lt_zero, false_and, if_false]
    unfold Dk.key
    rw [List.getD_eq_getElem?_getD, List.getElem?_eq_getElem (by omega)]
    rfl
  · rw [List.getElem?_eq_none (by simp; omega), List.getElem?_eq_none (by omega)]
    rfl
theorem struck_hit (d : Dk) (n k : Int) (j : Nat) (hj : j < 16) (h : d.hits n k j = true) : d.struck n k (j + 1) = (d.struck n k j).set j 0 := by
  have hh : (j : Int) ≠ n ∧ d.key j = k := by
    unfold Dk.hits at h
    rw [Bool.and_eq_true, decide_eq_true_eq, decide_eq_true_eq] at h
    exact h
  apply List.ext_getElem?
  intro i
  rw [List.getElem?_set, struck_length]
  unfold Dk.struck
  rw [List.getElem?_map, List.getElem?_map]
  by_cases hi : i < 16
  · rw [List.getElem?_range hi]
    by_cases hij : j = i
    · subst hij
      rw [if_pos rfl, if_pos hi]
      simp only [Option.map_some]
      rw [if_pos ⟨by omega, hh⟩]
    · rw [if_neg hij]
      simp only [Option.map_some]
      by_cases hlt : i < j
      · have h1 : i < j + 1 := by omega
        simp only [hlt, h1, true_and]
      · have h1 : ¬ i < j + 1 := by omega
        simp only [hlt, h1, false_and]
  · rw [if_neg (by omega), List.getElem?_eq_none (by simp; omega)]
    rfl
theorem struck_miss (d : Dk) (n k : Int) (j : Nat) (h : d.hits n k j = false) : d.struck n k (j + 1) = d.struck n k j := by
  have hh : ¬ ((j : Int) ≠ n ∧ d.key j = k) := by
    intro hc
    unfold Dk.hits at h
    rw [decide_eq_true hc.1, decide_eq_true hc.2] at h
    cases h
  unfold Dk.struck
  apply List.map_congr_left
  intro i _
  by_cases hij : i = j
  · subst hij
    rw [if_neg (fun h => hh h.2), if_neg (fun h => hh h.2)]
  · by_cases hlt : i < j
    · have h1 : i < j + 1 := by omega
      simp only [hlt, h1, true_and]
    · have h1 : ¬ i < j + 1 := by omega
      simp only [hlt, h1, false_and]
theorem held_others (d : Dk) (n k : Int) (j : Nat) (h : d.held n k j = true) : d.others n k j = true := by
  unfold Dk.held at h; unfold Dk.others
  rw [List.any_eq_true] at h ⊢
  obtain ⟨i, hi, h⟩ := h
  rw [Bool.and_eq_true] at h
  exact ⟨i, hi, h.1⟩
theorem struck_none (d : Dk) (n k : Int) (h : d.others n k 16 = false) (hl : d.keys.length = 16) : d.struck n k 16 = d.keys := by
  have h1 : d.struck n k 16 = d.struck n k 0 := by
    unfold Dk.struck
    apply List.map_congr_left
    intro i hi
    unfold Dk.others at h
    rw [List.any_eq_false] at h
    have hx := h i hi
    rw [if_neg (fun c : i < 16 ∧ (i : Int) ≠ n ∧ d.key i = k => hx (by rw [decide_eq_true c.2.1, decide_eq_true c.2.2]; rfl)), if_neg (fun c => Nat.not_lt_zero _ c.1)]
  rw [h1, struck_zero d n k hl]
def preEnd (d : Dk) (n k : Int) (g : Nat) (w : World) (e' : Ending) (w' : World) : Prop := e' = Ending.returned (.int .i64 (if d.others n k 16 then 0 else 10)) ∧ HasD w' g ⟨d.struck n k 16, if d.held n k 16 then (n : Int) else d.holder, d.kind, d.keep⟩ ∧ Only [g] w w'
set_option maxRecDepth 100000 in
set_option maxHeartbeats 4000000 in
theorem Preempt_ok (g : Nat) (d : Dk) (n : Nat) (k : Int) (w : World) (h : HasD w g d) (hn : n < 16) (hk : ¬ k = 0) (hz : ¬ d.key n = 0) :
    Calls Try.prog 31 #[.pointer (some ⟨g, 0, none⟩), .int .i64 (n : Int), .int .u64 k] w fun e w' => e = .returned (.int .i64 (if d.others n k 16 then 0 else 10)) ∧ HasD w' g ⟨d.struck n k 16, if d.held n k 16 then (n : Int) else d.holder, d.kind, d.keep⟩ ∧ Only [g] w w' := by
  have C0 := fault_any g d (n : Int) w h
  rw [fault_ok ⟨by omega, by omega⟩ (by simpa using hz)] at C0
  have C := Lib.hid C0
  have H := Lib.hid h
  have hkb := bF hk
  have c0 := h.keyCell (i := 0) (by omega)
  have c1 := h.keyCell (i := 1) (by omega)
  have c2 := h.keyCell (i := 2) (by omega)
  have c3 := h.keyCell (i := 3) (by omega)
  have c4 := h.keyCell (i := 4) (by omega)
  have c5 := h.keyCell (i := 5) (by omega)
  have c6 := h.keyCell (i := 6) (by omega)
  have c7 := h.keyCell (i := 7) (by omega)
  have c8 := h.keyCell (i := 8) (by omega)
  have c9 := h.keyCell (i := 9) (by omega)
  have c10 := h.keyCell (i := 10) (by omega)
  have c11 := h.keyCell (i := 11) (by omega)
  have c12 := h.keyCell (i := 12) (by omega)
  have c13 := h.keyCell (i := 13) (by omega)
  have c14 := h.keyCell (i := 14) (by omega)
  have c15 := h.keyCell (i := 15) (by omega)
  have IDX := idxKeys d
  have HST := Lib.hid (struck_zero d n k h.len)
  have hend : ∀ e' w', (e' = Ending.returned (.int .i64 (if d.others n k 16 then 0 else 10)) ∧ HasD w' g ⟨d.struck n k 16, if d.held n k 16 then (n : Int) else d.holder, d.kind, d.keep⟩ ∧ Only [g] w w') → preEnd d n k g w e' w' := fun _ _ h => h
  change Calls _ _ _ _ (preEnd d n k g w)
  have HEND := Lib.hid hend
  clear C0 h hk hz hend
  go_enter Try.func31, Try.ntmps31
  go_wp2_with (fail)
  refine C.out.mono ?_
  rintro e w1 ⟨rfl, hw1⟩
  have hw1' : w1 = w := hw1
  clear hw1
  subst hw1'
  go_wp2_with (fail)
  go_loopg [8, 9, 30] (16) (fun q v8 v9 v30 wr => ∃ j : Nat, j ≤ 16 ∧ v30 = .int .i64 j ∧ q = 16 - j ∧ v8 = .bool (d.others n k j) ∧ v9 = .bool (d.held n k j) ∧ HasD wr g ⟨d.struck n k j, d.holder, d.kind, d.keep⟩ ∧ Only [g] w1 wr)
  case atStart => exact ⟨0, by omega, rfl, rfl, rfl, rfl, by rw [HST.out]; exact H.out, Only.refl _ _⟩
  case round =>
    obtain ⟨j, hj, rfl, hq, rfl, rfl, hD, hO⟩ := hrel
    have HQ := Lib.hid hq
    have HD := Lib.hid hD
    have HO := Lib.hid hO
    have hgr := hD.lt
    have HK1 := Lib.hid hD.kindCell
    have HK2 := Lib.hid hD.holderCell
    clear hq hD hO
    by_cases hlt : j < 16
    · have hidx := fun W => IDX j hlt W
      clear IDX
      by_cases hjn : (j : Int) = n
      · have hbn : ((j : Int) != (n : Int)) = false := by rw [bne_eq_false_iff_eq]; exact hjn
        have hh : d.hits n k j = false := by unfold Dk.hits; rw [decide_eq_false (by simpa using hjn), Bool.false_and]
        have E1 := Lib.hid (others_succ d n k j)
        have E2 := Lib.hid (held_succ d n k j)
        have E3 := Lib.hid (struck_miss d n k j hh)
        have HH := Lib.hid hh
        clear hh hjn
        go_wp2_with (fail)
        go_roundg (16 - (j + 1))
        case measure => have := HQ.out; omega
        case rel =>
          refine ⟨j + 1, by omega, by go_num, rfl, ?_, ?_, ?_, HO.out⟩
          · rw [E1.out, HH.out, Bool.or_false]
          · rw [E2.out, HH.out, Bool.false_and, Bool.or_false]
          · rw [E3.out]; exact HD.out
      · by_cases hkk : d.key j = k
        · have hbn : ((j : Int) != (n : Int)) = true := by rw [bne_iff_ne]; exact hjn
          have hbk : (d.key j == k) = true := by rw [beq_iff_eq]; exact hkk
          have hh : d.hits n k j = true := by unfold Dk.hits; rw [decide_eq_true (by simpa using hjn), decide_eq_true hkk]; rfl
          have E1 := Lib.hid (others_succ d n k j)
          have E2 := Lib.hid (held_succ d n k j)
          have E3 := Lib.hid (struck_hit d n k j hlt hh)
          have HH := Lib.hid hh
          have k1 := HK1.out
          have k2 := HK2.out
          have f1 : ∀ q, (wr.drewN q).frozen? ⟨g, j, none⟩ = false := fun q => HD.out.frozen j
          have f2 : ∀ q, (wr.drewN q).cell? ⟨g, j, none⟩ = _ := fun q => HD.out.keyCell hlt
          clear hh hjn hkk
          have E2' := E2
          cases hv : d.held n k j with
          | true =>
            have HV := Lib.hid hv
            clear hv
            go_wp2_with (fail)
            go_quiet (fail)
            go_wp2_with (fail)
            go_roundg (16 - (j + 1))
            case measure => have := HQ.out; omega
            case rel =>
              refine ⟨j + 1, by omega, by go_num, rfl, ?_, ?_, ?_, (HO.out.drewN_ _).set_ (p := ⟨g, j, none⟩) (List.mem_singleton.mpr rfl) _⟩
              · rw [E1.out, HH.out, Bool.or_true]
              · rw [E2.out, HH.out, Bool.true_and]; rw [HV.out, Bool.true_or]
              · rw [E3.out]; exact (HasD.mk (w := wr.drewN _) HD.out.heap HD.out.len).setKey hlt 0

          | false =>
            have HV := Lib.hid hv
            clear hv
            by_cases hk0 : d.kind = 0
            · have hb0 : (d.kind != 0) = false := by rw [bne_eq_false_iff_eq]; exact hk0
              have HK0 := Lib.hid hk0
              clear hk0
              go_wp2_with (fail)
              go_quiet (fail)
              go_wp2_with (fail)
              go_roundg (16 - (j + 1))
              case measure => have := HQ.out; omega
              case rel =>
                refine ⟨j + 1, by omega, by go_num, rfl, ?_, ?_, ?_, (HO.out.drewN_ _).set_ (p := ⟨g, j, none⟩) (List.mem_singleton.mpr rfl) _⟩
                · rw [E1.out, HH.out, Bool.or_true]
                · rw [E2.out, HH.out, Bool.true_and]; rw [HV.out, Bool.false_or, decide_eq_false (by simpa using HK0.out), Bool.false_and]
                · rw [E3.out]; exact (HasD.mk (w := wr.drewN _) HD.out.heap HD.out.len).setKey hlt 0

            · have hb0 : (d.kind != 0) = true := by rw [bne_iff_ne]; exact hk0
              have HK0 := Lib.hid hk0
              clear hk0
              by_cases hh0 : d.holder = (j : Int)
              · have hb1 : (d.holder == (j : Int)) = true := by rw [beq_iff_eq]; exact hh0
                have HH0 := Lib.hid hh0
                clear hh0
                go_wp2_with (fail)
                go_quiet (fail)
                go_wp2_with (fail)
                go_roundg (16 - (j + 1))
                case measure => have := HQ.out; omega
                case rel =>
                  refine ⟨j + 1, by omega, by go_num, rfl, ?_, ?_, ?_, (HO.out.drewN_ _).set_ (p := ⟨g, j, none⟩) (List.mem_singleton.mpr rfl) _⟩
                  · rw [E1.out, HH.out, Bool.or_true]
                  · rw [E2.out, HH.out, Bool.true_and]; rw [HV.out, Bool.false_or, decide_eq_true (by simpa using HK0.out), decide_eq_true HH0.out]; rfl
                  · rw [E3.out]; exact (HasD.mk (w := wr.drewN _) HD.out.heap HD.out.len).setKey hlt 0

              · have hb1 : (d.holder == (j : Int)) = false := by rw [beq_eq_false_iff_ne]; exact hh0
                have HH0 := Lib.hid hh0
                clear hh0
                go_wp2_with (fail)
                go_quiet (fail)
                go_wp2_with (fail)
                go_roundg (16 - (j + 1))
                case measure => have := HQ.out; omega
                case rel =>
                  refine ⟨j + 1, by omega, by go_num, rfl, ?_, ?_, ?_, (HO.out.drewN_ _).set_ (p := ⟨g, j, none⟩) (List.mem_singleton.mpr rfl) _⟩
                  · rw [E1.out, HH.out, Bool.or_true]
                  · rw [E2.out, HH.out, Bool.true_and]; rw [HV.out, Bool.false_or, decide_eq_false HH0.out, Bool.and_false]
                  · rw [E3.out]; exact (HasD.mk (w := wr.drewN _) HD.out.heap HD.out.len).setKey hlt 0
        · have hbn : ((j : Int) != (n : Int)) = true := by rw [bne_iff_ne]; exact hjn
          have hbk : (d.key j == k) = false := by rw [beq_eq_false_iff_ne]; exact hkk
          have hh : d.hits n k j = false := by unfold Dk.hits; rw [decide_eq_false hkk, Bool.and_false]
          have E1 := Lib.hid (others_succ d n k j)
          have E2 := Lib.hid (held_succ d n k j)
          have E3 := Lib.hid (struck_miss d n k j hh)
          have HH := Lib.hid hh
          clear hh hjn hkk
          go_wp2_with (fail)
          go_roundg (16 - (j + 1))
          case measure => have := HQ.out; omega
          case rel =>
            refine ⟨j + 1, by omega, by go_num, rfl, ?_, ?_, ?_, HO.out⟩
            · rw [E1.out, HH.out, Bool.or_false]
            · rw [E2.out, HH.out, Bool.false_and, Bool.or_false]
            · rw [E3.out]; exact HD.out
    · obtain rfl : j = 16 := by omega
      clear IDX
      have HOH := Lib.hid (held_others d n k 16)
      cases hb1 : d.others n k 16 with
      | false =>
        have HB1 := Lib.hid hb1
        clear hb1
        go_wp2_with (fail)
        go_ret
        refine HEND.out _ _ ⟨?_, ?_, HO.out⟩
        · rw [HB1.out]; rfl
        · have : d.held n k 16 = false := by
            cases h : d.held n k 16 with
            | false => rfl
            | true => have := HOH.out h; rw [HB1.out] at this; cases this
          rw [this]; exact HD.out
      | true =>
        cases hb2 : d.held n k 16 with
        | false =>
          have HB1 := Lib.hid hb1
          have HB2 := Lib.hid hb2
          clear hb1 hb2
          go_wp2_with (fail)
          go_ret
          refine HEND.out _ _ ⟨?_, ?_, HO.out⟩
          · rw [HB1.out]; rfl
          · rw [HB2.out]; exact HD.out
        | true =>
          have HB1 := Lib.hid hb1
          have HB2 := Lib.hid hb2
          have k2 := HK2.out
          have f2 := HD.out.frozen 16
          clear hb1 hb2
          go_wp2_with (fail)
          go_ret
          refine HEND.out _ _ ⟨?_, ?_, HO.out.set_ (p := ⟨g, 16, none⟩) (List.mem_singleton.mpr rfl) _⟩
          · rw [HB1.out]; rfl
          · rw [HB2.out]; exact HD.out.setHolder _
theorem Preempt_any (g : Nat) (d : Dk) (n k : Int) (w : World) (h : HasD w g d) :
    Calls Try.prog 31 #[.pointer (some ⟨g, 0, none⟩), .int .i64 n, .int .u64 k] w fun e w' => e = .returned (.int .i64 (d.preE n k)) ∧ HasD w' g (d.pre n k) ∧ Only [g] w w' := by
  have C0 := fault_any g d n w h
  by_cases hi : isIn n
  · by_cases hk : k = 0
    · have hE : d.preE n k = 2 := by unfold Dk.preE; rw [if_pos (.inr hk)]
      have hD : d.pre n k = d := by unfold Dk.pre; rw [if_neg (by rw [hE]; decide)]
      have hkb := bT hk
      have hf : d.fault n = 0 ∨ d.fault n = 10 := by
        by_cases hz : d.key n.toNat = 0
        · exact .inr (fault_none hi hz)
        · exact .inl (fault_ok hi hz)
      have H := Lib.hid h
      have HE := Lib.hid hE
      have HDD := Lib.hid hD
      rcases hf with hf | hf
      · rw [hf] at C0
        have C := Lib.hid C0
        clear C0 hE hD h hi hf hk
        go_enter Try.func31, Try.ntmps31
        go_wp2_with (fail)
        refine C.out.mono ?_
        rintro e w' ⟨rfl, rfl⟩
        go_wp2_with (fail)
        go_ret
        exact keeps H.out HE.out.symm HDD.out
      · rw [hf] at C0
        have C := Lib.hid C0
        clear C0 hE hD h hi hf hk
        go_enter Try.func31, Try.ntmps31
        go_wp2_with (fail)
        refine C.out.mono ?_
        rintro e w' ⟨rfl, rfl⟩
        go_wp2_with (fail)
        go_ret
        exact keeps H.out HE.out.symm HDD.out
    · by_cases hz : d.key n.toNat = 0
      · have hE : d.preE n k = 10 := by unfold Dk.preE; rw [if_neg (fun h => h.elim (fun h => h hi) hk), if_pos hz]
        have hD : d.pre n k = d := by unfold Dk.pre; rw [if_neg (by rw [hE]; decide)]
        have hkb := bF hk
        rw [fault_none hi hz] at C0
        have H := Lib.hid h
        have HE := Lib.hid hE
        have HDD := Lib.hid hD
        have C := Lib.hid C0
        clear C0 hE hD h hi hz hk
        go_enter Try.func31, Try.ntmps31
        go_wp2_with (fail)
        refine C.out.mono ?_
        rintro e w' ⟨rfl, rfl⟩
        go_wp2_with (fail)
        go_ret
        exact keeps H.out HE.out.symm HDD.out
      · obtain ⟨m, rfl⟩ := Int.eq_ofNat_of_zero_le hi.1
        have hm : m < 16 := by have := hi.2; omega
        have hE : d.preE (m : Int) k = if d.others m k 16 then 0 else 10 := by unfold Dk.preE; rw [if_neg (fun h => h.elim (fun h => h hi) hk), if_neg hz]
        have hD : d.pre (m : Int) k = ⟨d.struck m k 16, if d.held m k 16 then (m : Int) else d.holder, d.kind, d.keep⟩ := by
          unfold Dk.pre; rw [hE]
          cases ho : d.others m k 16 with
          | true => rfl
          | false =>
            rw [if_neg (by decide)]
            have hh : d.held m k 16 = false := by
              cases hh : d.held m k 16 with
              | false => rfl
              | true => rw [held_others d m k 16 hh] at ho; cases ho
            rw [hh, struck_none d m k ho h.len]
            rfl
        rw [hE, hD]
        exact Preempt_ok g d m k w h hm hk (by simpa using hz)
  · have hE : d.preE n k = 2 := by unfold Dk.preE; rw [if_pos (.inl hi)]
    have hD : d.pre n k = d := by unfold Dk.pre; rw [if_neg (by rw [hE]; decide)]
    rw [show d.fault n = 2 from by unfold Dk.fault; rw [if_neg hi]] at C0
    have H := Lib.hid h
    have HE := Lib.hid hE
    have HDD := Lib.hid hD
    have C := Lib.hid C0
    clear C0 hE hD h hi
    go_enter Try.func31, Try.ntmps31
    go_wp2_with (fail)
    refine C.out.mono ?_
    rintro e w' ⟨rfl, rfl⟩
    go_wp2_with (fail)
    go_ret
    exact keeps H.out HE.out.symm HDD.out
end Go.Proofs.Ytjpdjhmajjbgmaa.Res
