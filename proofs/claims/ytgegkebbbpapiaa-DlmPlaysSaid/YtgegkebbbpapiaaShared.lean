/- The walk of DlmShared: the law's body, and that it answers true. -/
import Derived.Test.YtgegkebbbpapiaaShMath
namespace Go.Proofs.Ytgegkebbbpapiaa.Dlm
open Go.RowKit
theorem own_form {w : World} {base : Nat} {e : TypeId} {size : Nat} {v : Value} {n : Nat} {xs : List Value} (h : w.ownsRow base e size v n xs) : ∃ A cap, v = .slice A n cap ∧ n ≤ cap := by
  rcases h.2 with ⟨hv, h0⟩ | ⟨g, c, cur, hv, _, _, h1, _⟩
  · exact ⟨none, 0, by rw [hv, h0], by omega⟩
  · exact ⟨_, c, hv, h1⟩
theorem own_form1 {w : World} {base : Nat} {e : TypeId} {v : Value} {x : Value} (h : w.ownsRow base e 1 v 1 [x]) : ∃ r cap, v = .slice (some ⟨r, 0, none⟩) 1 cap ∧ r < w.heap.size ∧ w.cell? ⟨r, 0, none⟩ = some x := by
  obtain ⟨g, cap, hv, hb, hl⟩ := h.form (by omega)
  subst hv
  exact ⟨g, cap, rfl, hl, by rw [h.cellAt 0 (by omega)]; rfl⟩
set_option linter.unusedVariables false
theorem u16_in (n : Int) (h0 : 0 ≤ n) (h1 : n ≤ 65535) : IntKind.u16.wrap n = n := by
  simp [IntKind.wrap, IntKind.bits, IntKind.signed]; omega
set_option maxRecDepth 100000 in
set_option maxHeartbeats 2000000 in
theorem shared_walk (A : Option Addr) (cap : Nat) (xs : List Int) (n : Nat) (w : World) (hin : InInts w .u16 A xs) (hwf : ∀ x ∈ xs, 0 ≤ x ∧ x ≤ 65535) (hlc : xs.length ≤ cap) (hcm : cap ≤ maxLen) (hn : n < 256) :
    Calls Try.prog 6 #[.slice A xs.length cap, .int .u8 (n : Int)] w fun e w' => e = .returned (.bool true) ∧ Below w.heap.size w w' := by
  have HIN0 := Lib.hid hin
  have HWF := Lib.hid hwf
  clear hin hwf
  unfold maxLen at hcm
  go_enter Try.func6, Try.ntmps6
  go_wp2_with (fail)
  refine (new_any _).mono ?_
  rintro e w0 ⟨rfl, rfl⟩
  have hT0 := tab_new w
  have hB0 : Below w.heap.size w (w.alloc (.cells #[.slice none 0 0] 57)) := (Below.refl _ _).alloc (Nat.le_refl _) _
  generalize w.alloc (.cells #[.slice none 0 0] 57) = w0 at *
  have H0 := Lib.hid hT0
  have HB0 := Lib.hid hB0
  clear hT0 hB0
  generalize hgw : w.heap.size = g at *
  have HGW := Lib.hid hgw
  clear hgw
  go_wp2_with (fail)
  refine (awake_any _).mono ?_
  rintro e w1 ⟨rfl, hb1⟩
  have H1 := Lib.hid (H0.out.below hb1)
  have HB1 := Lib.hid (HB0.out.trans (hb1.mono (Nat.le_of_lt H0.out.lt)))
  clear hb1
  go_wp2_with (fail)
  have HIN1 := Lib.hid (HIN0.out.below (by rw [HGW.out]; exact HB1.out))
  go_loopg [6, 7] (xs.length) (fun q v6 v7 wr => ∃ i : Nat, i ≤ xs.length ∧ i ≤ 60 ∧ v6 = .int .i64 i ∧ v7 = .int .i64 i ∧ q = xs.length - i ∧ (∃ vt ts, ts.length = i ∧ (∀ t ∈ ts, t.alone = false ∧ t.gone = false) ∧ Tab wr g vt ts) ∧ Below g w wr)
  case atStart => exact ⟨0, by omega, by omega, rfl, rfl, rfl, ⟨_, [], rfl, (fun t ht => by cases ht), H1.out⟩, HB1.out⟩
  case round =>
    obtain ⟨i, hi, hi60, rfl, rfl, hq, ⟨vt, ts, hts, hall, hT⟩, hb⟩ := hrel
    have HQ := Lib.hid hq
    have HTS := Lib.hid hts
    have HALL := Lib.hid hall
    have HT := Lib.hid hT
    have HB := Lib.hid hb
    have hgr := hT.lt
    clear hq hts hall hT hb
    by_cases hlt : i < xs.length ∧ i < 60
    · obtain ⟨hlt, hlt60⟩ := hlt
      obtain ⟨x, hx⟩ : ∃ x, xs[i]? = some x := ⟨_, List.getElem?_eq_getElem hlt⟩
      obtain ⟨hx0, hx1⟩ := HWF.out x (List.mem_of_getElem? hx)
      obtain ⟨b, off, rfl, hbl, hrow⟩ : ∃ b off, A = some ⟨b, off, none⟩ ∧ b < w.heap.size ∧ _ := by
        rcases HIN0.out with h | ⟨b, off, hA, hbl, h⟩
        · rw [h] at hlt; simp at hlt
        · exact ⟨b, off, hA, hbl, h i x hx⟩
      rw [HGW.out] at hbl
      rw [← bcell HB.out b _ hbl] at hrow
      have hd : IntKind.u16.wrap (x.tdiv 50) = x / 50 := by rw [Int.tdiv_eq_ediv_of_nonneg hx0, u16_in _ (by omega) (by omega)]
      have hd0 : 0 ≤ x / 50 := by omega
      have hd1 : x / 50 ≤ 1311 := by omega
      clear hx
      have C0 := fun W (hW : Tab W g vt ts) => Ask_ok g vt ((i : Int) % 16) (x % 50) (x % 50 + x / 50) false W ts hW (by rw [HTS.out]; omega) (by omega) (by omega) (by omega) (by omega)
      rw [HTS.out] at C0
      have C := Lib.hid C0
      clear C0
      go_wp2_with (fail)
      refine (C.out _ HT.out).mono ?_
      rintro e w2 ⟨rfl, v2, hT2, hO2, _⟩
      have HT2 := Lib.hid hT2
      have HB2 := Lib.hid (Only.below HB.out hO2 (Nat.le_of_lt hgr) (by
        intro x hx
        simp only [List.mem_cons, Option.mem_toList] at hx
        rcases hx with rfl | hx
        · exact Nat.le_refl _
        · have := (HT.out.2.lt x hx).1; omega))
      clear hT2 hO2
      go_wp2_with (fail)
      go_roundg (xs.length - (i + 1))
      case measure => have := HQ.out; omega
      case rel =>
        refine ⟨i + 1, by omega, by omega, by go_num, by go_num, rfl, ⟨v2, _, ?_, ?_, HT2.out⟩, HB2.out⟩
        · rw [List.length_append, HTS.out]; rfl
        · intro t ht
          rw [List.mem_append, List.mem_singleton] at ht
          rcases ht with h | rfl
          · exact HALL.out t h
          · exact ⟨rfl, rfl⟩
    · go_wp2_with (fail)
      all_goals
        obtain ⟨e1, e2⟩ := those_shared ts HALL.out
        refine (Granted_ok g vt _ ts HT.out (by rw [HTS.out]; omega)).mono ?_
        rintro e w2 ⟨u2, rfl, hu2, hb2⟩
        rw [e1, HTS.out] at hu2
        obtain ⟨A2, c2, rfl, hc2⟩ := own_form hu2
        have HT2 := Lib.hid (HT.out.below hb2)
        have HB2 := Lib.hid (HB.out.trans (hb2.mono (Nat.le_of_lt hgr)))
        clear hu2 hb2 e1
        go_wp2_with (fail)
        refine (Waiting_ok g vt _ ts HT2.out (by rw [HTS.out]; omega)).mono ?_
        rintro e w3 ⟨u3, rfl, hu3, hb3⟩
        rw [e2] at hu3
        obtain ⟨A3, c3, rfl, hc3⟩ := own_form hu3
        have HB3 := Lib.hid (HB2.out.trans (hb3.mono (Nat.le_of_lt HT2.out.lt)))
        have hg3 : g ≤ w3.heap.size := by have := hb3.size; have := HT2.out.lt; omega
        clear hu3 hb3 e2
        go_wp2_with (fail)
        refine (new_any _).mono ?_
        rintro e w4 ⟨rfl, rfl⟩
        have hT4 := tab_new w3
        have hB4 : Below g w (w3.alloc (.cells #[.slice none 0 0] 57)) := HB3.out.alloc hg3 _
        have HT4 := Lib.hid hT4
        have HB4 := Lib.hid hB4
        clear hT4 hB4
        generalize w3.alloc (.cells #[.slice none 0 0] 57) = w4 at *
        generalize w3.heap.size = g2 at *
        have hn1 : ((n : Int) % 20 + 1) = ((n % 20 + 1 : Nat) : Int) := by omega
        have hm1 : 1 ≤ n % 20 + 1 := by omega
        have hm2 : n % 20 + 1 ≤ 20 := by omega
        generalize n % 20 + 1 = m at *
        have HN1 := Lib.hid hn1
        clear hn1
        go_wp2_with (fail)
        rw [HN1.out]
        go_loopg [13] (m) (fun q v13 wr => ∃ i : Nat, i ≤ m ∧ v13 = .int .i64 i ∧ q = m - i ∧ (∃ vt, Tab wr g2 vt (line i 0)) ∧ Below g w wr)
        case atStart => exact ⟨0, by omega, rfl, rfl, ⟨_, HT4.out⟩, HB4.out⟩
        case round =>
          obtain ⟨i, hi, rfl, hq, ⟨vt, hT⟩, hb⟩ := hrel
          have HQ := Lib.hid hq
          have HT := Lib.hid hT
          have HB := Lib.hid hb
          have hgr := hT.lt
          clear hq hT hb
          by_cases hlt : i < m
          · have C0 := fun W (hW : Tab W g2 vt (line i 0)) => Ask_ok g2 vt ((i : Int) % 16) 3 5 true W _ hW (by rw [line_length]; omega) (by omega) (by omega) (by omega) (by omega)
            rw [line_length, line_snoc] at C0
            have C := Lib.hid C0
            clear C0
            go_wp2_with (fail)
            refine (C.out _ HT.out).mono ?_
            rintro e w5 ⟨rfl, v5, hT5, hO5, _⟩
            have HT5 := Lib.hid hT5
            have HB5 := Lib.hid (Only.below HB.out hO5 (by omega) (by
              intro x hx
              simp only [List.mem_cons, Option.mem_toList] at hx
              rcases hx with rfl | hx
              · omega
              · have := (HT.out.2.lt x hx).1; omega))
            clear hT5 hO5
            go_wp2_with (fail)
            go_roundg (m - (i + 1))
            case measure => have := HQ.out; omega
            case rel => exact ⟨i + 1, by omega, by go_num, rfl, ⟨_, HT5.out⟩, HB5.out⟩
          · obtain rfl : i = m := by omega
            go_wp2_with (fail)
            go_loopg [16] (i) (fun q v16 wr => ∃ j : Nat, j ≤ i ∧ v16 = .int .i64 j ∧ q = i - j ∧ (∃ vt, Tab wr g2 vt (line i j)) ∧ Below g w wr)
            case atStart => exact ⟨0, by omega, rfl, rfl, ⟨_, HT.out⟩, HB.out⟩
            case round =>
              obtain ⟨j, hj, rfl, hq, ⟨vt, hT⟩, hb⟩ := hrel
              have HQ2 := Lib.hid hq
              have HT6 := Lib.hid hT
              have HB6 := Lib.hid hb
              have hgr6 := hT.lt
              clear hq hT hb
              have G0 := fun W (hW : Tab W g2 vt (line i j)) => Granted_ok g2 vt W _ hW (by rw [line_length]; omega)
              rw [line_length, those_line] at G0
              by_cases hlj : j < i
              · rw [if_pos hlj] at G0
                have GC := Lib.hid G0
                have W0 := fun W (hW : Tab W g2 vt (line i j)) => Waiting_ok g2 vt W _ hW (by rw [line_length]; omega)
                rw [line_length, wait_line i j hlj] at W0
                have WC := Lib.hid W0
                have F0 := fun W (hW : Tab W g2 vt (line i j)) => Free_ok g2 vt j W _ hW (by rw [line_length]; omega) (by rw [line_length]; omega) (by rw [st_line i j j hlj, if_neg (by omega), if_pos rfl]; decide)
                rw [line_gone i j hlj] at F0
                have FC := Lib.hid F0
                clear G0 W0 F0
                go_wp2_with (fail)
                refine (GC.out _ HT6.out).mono ?_
                rintro e w7 ⟨u7, rfl, hu7, hb7⟩
                obtain ⟨r7, c7, rfl, hr7, hcell7⟩ := own_form1 (x := .int .i64 (j : Int)) hu7
                have HT7 := Lib.hid (HT6.out.below hb7)
                have HB7 := Lib.hid (HB6.out.trans (hb7.mono (by omega)))
                have hg7 := HT7.out.lt
                clear hu7 hb7
                go_wp2_with (fail)
                refine (WC.out _ HT7.out).mono ?_
                rintro e w8 ⟨u8, rfl, hu8, hb8⟩
                obtain ⟨A8, c8, rfl, hc8⟩ := own_form hu8
                have HT8 := Lib.hid (HT7.out.below hb8)
                have HB8 := Lib.hid (HB7.out.trans (hb8.mono (by omega)))
                have hg8 := HT8.out.lt
                have hsub : (((i - 1 - j : Nat) : Int) != (i : Int) - 1 - (j : Int)) = false := by rw [bne_eq_false_iff_eq]; omega
                have hsub2 : (((i - 1 - j : Nat) : Int) == (i : Int) - 1 - (j : Int)) = true := by rw [beq_iff_eq]; omega
                clear hu8 hb8
                go_wp2_with (fail)
                refine (FC.out _ HT8.out).mono ?_
                rintro e w9 ⟨rfl, hT9, hO9⟩
                have HT9 := Lib.hid hT9
                have HB9 := Lib.hid (Only.below HB8.out hO9 (by omega) (by
                  intro x hx
                  rw [Option.mem_toList] at hx
                  have := (HT8.out.2.lt x hx).1; omega))
                clear hT9 hO9
                go_wp2_with (fail)
                go_roundg (i - (j + 1))
                case measure => have := HQ2.out; omega
                case rel => exact ⟨j + 1, by omega, by go_num, rfl, ⟨_, HT9.out⟩, HB9.out⟩
              · rw [if_neg hlj] at G0
                have GC := Lib.hid G0
                clear G0
                go_wp2_with (fail)
                refine (GC.out _ HT6.out).mono ?_
                rintro e w7 ⟨u7, rfl, hu7, hb7⟩
                obtain ⟨A7, c7, rfl, _⟩ := own_form hu7
                have HB7 := Lib.hid (HB6.out.trans (hb7.mono (by omega)))
                clear hu7 hb7
                go_wp2_with (fail)
                go_ret
                exact ⟨rfl, by rw [HGW.out]; exact HB7.out⟩
theorem shared_int (A : Option Addr) (cap : Nat) (xs : List Int) (a : Int) (w : World) (hin : InInts w .u16 A xs) (hwf : ∀ x ∈ xs, (Lit.int .u16 x).wf = true) (hlc : xs.length ≤ cap) (hcm : cap ≤ maxLen) (ha : (Lit.int .u8 a).wf = true) :
    Calls Try.prog 6 #[.slice A xs.length cap, .int .u8 a] w fun e w' => e = .returned (.bool true) ∧ Below w.heap.size w w' := by
  have h1 : 0 ≤ a ∧ a < 256 := by
    simp [Lit.wf] at ha
    have e0 : IntKind.u8.min = 0 := by decide
    have e1 : IntKind.u8.max = 255 := by decide
    omega
  obtain ⟨n, rfl⟩ := Int.eq_ofNat_of_zero_le h1.1
  refine shared_walk A cap xs n w hin (fun x hx => ?_) hlc hcm (by omega)
  have h := hwf x hx
  simp [Lit.wf] at h
  have e0 : IntKind.u16.min = 0 := by decide
  have e1 : IntKind.u16.max = 65535 := by decide
  omega
end Go.Proofs.Ytgegkebbbpapiaa.Dlm
