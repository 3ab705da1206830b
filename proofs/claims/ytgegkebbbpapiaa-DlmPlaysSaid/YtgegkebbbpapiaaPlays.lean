/- The walk of DlmPlays. -/
import Derived.Test.YtgegkebbbpapiaaPl4
import Derived.Test.YtgegkebbbpapiaaAsked
namespace Go.Proofs.Ytgegkebbbpapiaa.Dlm
open Go.RowKit
set_option linter.unusedVariables false
theorem own_heap {w : World} {base : Nat} {e e2 : TypeId} {size : Nat} {v : Value} {n : Nat} {xs : List Value} {b : Nat} {cs : Array Value} (h : w.ownsRow base e size v n xs) (hb : w.heap[b]? = some (.cells cs e2 (0, 0))) (hne : e ≠ e2) : b ∉ v.ownBlock.toList := fun hm => by
  rw [Option.mem_toList] at hm
  exact own_blk h hb hne hm
theorem pl_turn {w0 w w' : World} {g : Nat} {vt vt' v4 : Value} {ts us : List Tk} (hT : Tab w g vt ts) (hR : RR w w0.heap.size v4 ts) (hB : Below w0.heap.size w0 w) (hg : w0.heap.size ≤ g) (h : Turned w w' g vt vt' us) :
    RR w' w0.heap.size v4 ts ∧ Below w0.heap.size w0 w' ∧ (∀ (b : Nat) (cs : Array Value), w.heap[b]? = some (.cells cs 28 (0, 0)) → w'.heap[b]? = some (.cells cs 28 (0, 0))) := by
  refine ⟨hR.kept h.only ?_, Only.below hB h.only hB.size ?_, ?_⟩
  · intro k hk hm
    rcases List.mem_cons.1 hm with rfl | hm
    · exact own_blk hR hT.1 (by decide) hk
    · rw [Option.mem_toList] at hm
      exact own_ne hR hT.2 (by decide) k hk hm
  · intro x hx
    rcases List.mem_cons.1 hx with rfl | hx
    · exact hg
    · rw [Option.mem_toList] at hx
      have := (hT.2.lt x hx).1
      omega
  · intro b cs hb
    rw [h.only.block b (lt_of_heap hb) ?_]
    · exact hb
    · intro hm
      rcases List.mem_cons.1 hm with rfl | hm
      · rw [hT.1] at hb; injection hb with hb; injection hb with _ ht; exact absurd ht (by decide)
      · exact own_heap hT.2 hb (by decide) hm
theorem box_cells {w : World} {b : Nat} {k o l h : Int} {a : Bool} (hb : w.heap[b]? = some (.cells #[.int .i64 k, .int .i64 o, .int .i64 l, .int .i64 h, .bool a] 28 (0, 0))) :
    w.cell? ⟨b, 0, none⟩ = some (.int .i64 k) ∧ w.cell? ⟨b, 1, none⟩ = some (.int .i64 o) ∧ w.cell? ⟨b, 2, none⟩ = some (.int .i64 l) ∧ w.cell? ⟨b, 3, none⟩ = some (.int .i64 h) ∧ w.cell? ⟨b, 4, none⟩ = some (.bool a) := by
  refine ⟨?_, ?_, ?_, ?_, ?_⟩ <;> (rw [cell_of_heap hb]; rfl)
/-- What the law keeps. -/
structure Pl (w0 wr : World) (g : Nat) (vt v4 : Value) (ts : List Tk) : Prop where
  tab : Tab wr g vt ts
  row : RR wr w0.heap.size v4 ts
  len : ts.length ≤ 256
  below : Below w0.heap.size w0 wr
theorem Pl.next {w0 w w' w'' : World} {g : Nat} {vt vt' v4 v4' : Value} {ts us : List Tk} (h : Pl w0 w g vt v4 ts) (hg : w0.heap.size ≤ g) (ht : Turned w w' g vt vt' us) (hR : RR w'' w0.heap.size v4' us) (hl : us.length ≤ 256) (hb : Below w'.heap.size w' w'') :
    Pl w0 w'' g vt' v4' us :=
  have hp := pl_turn h.tab h.row h.below hg ht
  ⟨ht.tab.below hb, hR, hl, hp.2.1.trans (hb.mono hp.2.1.size)⟩
theorem Pl.kept {w0 w w' : World} {g : Nat} {vt v4 : Value} {ts : List Tk} (h : Pl w0 w g vt v4 ts) (hb : Below w.heap.size w w') : Pl w0 w' g vt v4 ts :=
  ⟨h.tab.below hb, h.row.below hb, h.len, h.below.trans (hb.mono h.below.size)⟩
set_option maxRecDepth 100000 in
set_option maxHeartbeats 8000000 in
theorem plays_walk (A : Option Addr) (cap : Nat) (os : List Op5) (w : World) (hin : InOps w A os) (hlc : os.length ≤ cap) (hcm : cap ≤ maxLen) :
    Calls Try.prog 7 #[.slice A os.length cap] w fun e w' => e = .returned (.bool true) ∧ Below w.heap.size w w' := by
  have HIN := Lib.hid hin
  clear hin
  unfold maxLen at hcm
  go_enter Try.func7, Try.ntmps7
  go_wp2_with (fail)
  refine (awake_any _).mono ?_
  rintro e w0 ⟨rfl, hb0⟩
  have HB0 := Lib.hid hb0
  clear hb0
  go_wp2_with (fail)
  refine (new_any _).mono ?_
  rintro e wz ⟨rfl, hwz⟩
  have hT0 := tab_new w0
  have hB0 : Below w.heap.size w (w0.alloc (.cells #[.slice none 0 0] 57)) := HB0.out.alloc HB0.out.size _
  rw [← hwz] at hT0 hB0
  have hgw : w.heap.size ≤ w0.heap.size := HB0.out.size
  have HP0 := Lib.hid (show Pl w wz w0.heap.size _ _ [] from ⟨hT0, RR.nil wz w.heap.size, by simp, hB0⟩)
  clear hwz hT0 hB0
  generalize w0.heap.size = g at *
  go_wp2_with (fail)
  go_loopg [4, 5] (os.length) (fun q v4 v5 wr => ∃ i : Nat, i ≤ os.length ∧ v5 = .int .i64 i ∧ q = os.length - i ∧ ∃ vt ts, Pl w wr g vt v4 ts)
  case atStart => exact ⟨0, by omega, rfl, rfl, _, _, HP0.out⟩
  case round =>
    obtain ⟨i, hi, rfl, hq, vt, ts, hp⟩ := hrel
    have HQ := Lib.hid hq
    have HPr := Lib.hid hp
    clear hq hp HP0
    by_cases hlt : i < os.length
    · obtain ⟨o, ho⟩ : ∃ o, os[i]? = some o := ⟨_, List.getElem?_eq_getElem hlt⟩
      obtain ⟨b, off, rfl, hbl, hrow⟩ : ∃ b off, A = some ⟨b, off, none⟩ ∧ b < w.heap.size ∧ _ := by
        rcases HIN.out with h | ⟨b, off, hA, hbl, h⟩
        · rw [h] at hlt; simp at hlt
        · exact ⟨b, off, hA, hbl, h i o ho⟩
      obtain ⟨x0, x1, x2, x3, x4⟩ := hrow
      rw [← bcell HPr.out.below b _ hbl] at x0 x1 x2 x3 x4
      clear ho
      have hA1 : ∀ cs : Array Value, Below wr.heap.size wr (wr.alloc (.cells cs 28)) := fun cs => (Below.refl _ _).alloc (Nat.le_refl _) _
      have hA2 : ∀ cs : Array Value, (wr.alloc (.cells cs 28)).heap[wr.heap.size]? = some (.cells cs 28 (0, 0)) := fun cs => heap_alloc_new wr _
      go_upto_region 11 with (fail)
      have HP := Lib.hid (Pl.kept HPr.out (hA1 #[.int .i64 o.kind, .int .i64 o.owner, .int .i64 o.lo, .int .i64 o.hi, .bool o.alone]))
      have HX := Lib.hid (hA2 #[.int .i64 o.kind, .int .i64 o.owner, .int .i64 o.lo, .int .i64 o.hi, .bool o.alone])
      clear hA1 hA2 HPr x0 x1 x2 x3 x4
      generalize wr.alloc (.cells #[.int .i64 o.kind, .int .i64 o.owner, .int .i64 o.lo, .int .i64 o.hi, .bool o.alone] 28) = w1 at *
      generalize wr.heap.size = b6 at *
      obtain ⟨c0, c1, c2, c3, c4⟩ := box_cells HX.out
      by_cases k1 : o.kind = 1
      · rw [k1] at c0
        have K1 := Lib.hid k1
        clear k1
        go_wp2_with (fail)
        refine (ask_any g vt o.owner o.lo o.hi o.alone _ ts HP.out.tab).mono ?_
        rintro e w2 ⟨vt2, rfl, ht⟩
        have hp := pl_turn HP.out.tab HP.out.row HP.out.below hgw ht
        have HR2 := Lib.hid hp.1
        have HB2 := Lib.hid hp.2.1
        have HX2 := Lib.hid (hp.2.2 _ _ HX.out)
        have HTT := Lib.hid ht
        clear hp ht c0 c1 c2 c3 c4
        obtain ⟨c0, c1, c2, c3, c4⟩ := box_cells HX2.out
        go_wp2_with (fail)
        refine (rask_any _ _ o.owner o.lo o.hi o.alone _ ts HR2.out HB2.out.size).mono ?_
        rintro e w3 ⟨v3, rfl, hR3, hB3⟩
        have HP3 := Lib.hid (Pl.next HP.out hgw HTT.out hR3 (aT_le HP.out.len) hB3)
        have HX3 := Lib.hid ((hB3.block b6 (lt_of_heap HX2.out)).trans HX2.out)
        clear hR3 hB3 c0 c1 c2 c3 c4
        generalize aN ts o.owner o.lo o.hi = na at *
        generalize aE ts o.owner o.lo o.hi = ea at *
        have z1 : (na != na) = false := bne_self_eq_false _
        have z2 : (ea != ea) = false := bne_self_eq_false _
        go_wp2_with (fail)
        go_roundg (os.length - (i + 1))
        case measure => have := HQ.out; omega
        case rel => exact ⟨i + 1, by omega, by go_num, rfl, _, _, HP3.out⟩
      have n1 : (o.kind == 1) = false := beq_eq_false_iff_ne.2 k1
      clear k1
      by_cases k5 : o.kind = 5
      · rw [k5] at c0
        have K5 := Lib.hid k5
        clear k5
        have hrem : Int.tmod o.lo 300 ≤ 299 ∧ -300 < Int.tmod o.lo 300 := ⟨by have := Int.tmod_lt_of_pos o.lo (show (0 : Int) < 300 by decide); omega, by have := Int.lt_tmod_of_pos o.lo (show (0 : Int) < 300 by decide); omega⟩
        go_wp2_with (fail)
        go_loopg [4, 7, 8, 9, 10, 11] (300) (fun q v4 v7 v8 v9 v10 v11 wq => ∃ k : Nat, ∃ na ea vt ts, k ≤ 300 ∧ v11 = .int .i64 k ∧ q = 300 - k ∧ v9 = .int .i64 na ∧ v10 = .int .i64 na ∧ v7 = .int .i64 ea ∧ v8 = .int .i64 ea ∧ Pl w wq g vt v4 ts ∧ wq.heap[b6]? = some (.cells #[.int .i64 o.kind, .int .i64 o.owner, .int .i64 o.lo, .int .i64 o.hi, .bool o.alone] 28 (0, 0)))
        case atStart => exact ⟨0, 0, 0, _, _, by omega, rfl, rfl, rfl, rfl, rfl, rfl, HP.out, HX.out⟩
        case round =>
          as_aux_lemma =>
            clear HP HX
            obtain ⟨k, na, ea, vt, ts, hk, rfl, hq2, rfl, rfl, rfl, rfl, hp, hx⟩ := hrel
            have HP := Lib.hid hp
            have HX := Lib.hid hx
            have HQ2 := Lib.hid hq2
            clear hp hx hq2 c0 c1 c2 c3 c4
            obtain ⟨c0, c1, c2, c3, c4⟩ := box_cells HX.out
            by_cases hm : (k : Int) < Int.tmod o.lo 300
            · have HM := Lib.hid hm
              have hk3 : k < 300 := by omega
              go_wp2_with (fail)
              refine (ask_any g vt o.owner (k : Int) (k : Int) o.alone _ ts HP.out.tab).mono ?_
              rintro e w2 ⟨vt2, rfl, ht⟩
              have hp := pl_turn HP.out.tab HP.out.row HP.out.below hgw ht
              have HR2 := Lib.hid hp.1
              have HB2 := Lib.hid hp.2.1
              have HX2 := Lib.hid (hp.2.2 _ _ HX.out)
              have HTT := Lib.hid ht
              clear hp ht c0 c1 c2 c3 c4
              obtain ⟨c0, c1, c2, c3, c4⟩ := box_cells HX2.out
              go_wp2_with (fail)
              refine (rask_any _ _ o.owner (k : Int) (k : Int) o.alone _ ts HR2.out HB2.out.size).mono ?_
              rintro e w3 ⟨v3, rfl, hR3, hB3⟩
              have HP3 := Lib.hid (Pl.next HP.out hgw HTT.out hR3 (aT_le HP.out.len) hB3)
              have HX3 := Lib.hid ((hB3.block b6 (lt_of_heap HX2.out)).trans HX2.out)
              clear hR3 hB3 c0 c1 c2 c3 c4
              generalize aN ts o.owner k k = na2 at *
              generalize aE ts o.owner k k = ea2 at *
              go_wp2_with (fail)
              go_roundg (300 - (k + 1))
              case measure => have := HQ2.out; omega
              case rel => exact ⟨k + 1, na2, ea2, _, _, by omega, by go_num, rfl, rfl, rfl, rfl, rfl, HP3.out, HX3.out⟩
            · have z1 : (na != na) = false := bne_self_eq_false _
              have z2 : (ea != ea) = false := bne_self_eq_false _
              go_wp2_with (fail)
              go_roundg (os.length - (i + 1))
              case measure => have := HQ.out; omega
              case rel => exact ⟨i + 1, by omega, by go_num, rfl, _, _, HP.out⟩
      have n5 : (o.kind == 5) = false := beq_eq_false_iff_ne.2 k5
      clear k5
      by_cases k2 : o.kind = 2
      · rw [k2] at c0
        have K2 := Lib.hid k2
        clear k2
        go_wp2_with (fail)
        refine (free_any g vt o.lo _ ts HP.out.tab HP.out.len).mono ?_
        rintro e w2 ⟨rfl, ht⟩
        have hp := pl_turn HP.out.tab HP.out.row HP.out.below hgw ht
        have HR2 := Lib.hid hp.1
        have HB2 := Lib.hid hp.2.1
        have HX2 := Lib.hid (hp.2.2 _ _ HX.out)
        have HTT := Lib.hid ht
        clear hp ht c0 c1 c2 c3 c4
        obtain ⟨c0, c1, c2, c3, c4⟩ := box_cells HX2.out
        go_wp2_with (fail)
        refine (rfree_any _ _ o.lo _ ts HR2.out HP.out.len HB2.out.size).mono ?_
        rintro e w3 ⟨v3, rfl, hR3, hB3⟩
        have HP3 := Lib.hid (Pl.next HP.out hgw HTT.out hR3 (fT_le HP.out.len) hB3)
        have HX3 := Lib.hid ((hB3.block b6 (lt_of_heap HX2.out)).trans HX2.out)
        clear hR3 hB3 c0 c1 c2 c3 c4
        generalize fE ts o.lo = ea at *
        have z2 : (ea != ea) = false := bne_self_eq_false _
        go_wp2_with (fail)
        go_roundg (os.length - (i + 1))
        case measure => have := HQ.out; omega
        case rel => exact ⟨i + 1, by omega, by go_num, rfl, _, _, HP3.out⟩
      have n2 : (o.kind == 2) = false := beq_eq_false_iff_ne.2 k2
      clear k2
      by_cases k3 : o.kind = 3
      · rw [k3] at c0
        have K3 := Lib.hid k3
        clear k3
        go_wp2_with (fail)
        refine (leave_any g vt o.owner _ ts HP.out.tab HP.out.len).mono ?_
        rintro e w2 ⟨rfl, ht⟩
        have hp := pl_turn HP.out.tab HP.out.row HP.out.below hgw ht
        have HR2 := Lib.hid hp.1
        have HB2 := Lib.hid hp.2.1
        have HX2 := Lib.hid (hp.2.2 _ _ HX.out)
        have HTT := Lib.hid ht
        clear hp ht c0 c1 c2 c3 c4
        obtain ⟨c0, c1, c2, c3, c4⟩ := box_cells HX2.out
        go_wp2_with (fail)
        refine (rleave_any _ _ o.owner _ ts HR2.out HP.out.len HB2.out.size).mono ?_
        rintro e w3 ⟨v3, rfl, hR3, hB3⟩
        have HP3 := Lib.hid (Pl.next HP.out hgw HTT.out hR3 (lT_le HP.out.len) hB3)
        have HX3 := Lib.hid ((hB3.block b6 (lt_of_heap HX2.out)).trans HX2.out)
        clear hR3 hB3 c0 c1 c2 c3 c4
        generalize lN ts o.owner = na at *
        generalize lE o.owner = ea at *
        have z1 : (na != na) = false := bne_self_eq_false _
        have z2 : (ea != ea) = false := bne_self_eq_false _
        go_wp2_with (fail)
        go_roundg (os.length - (i + 1))
        case measure => have := HQ.out; omega
        case rel => exact ⟨i + 1, by omega, by go_num, rfl, _, _, HP3.out⟩
      have n3 : (o.kind == 3) = false := beq_eq_false_iff_ne.2 k3
      clear k3
      by_cases k4 : o.kind = 4
      · rw [k4] at c0
        have K4 := Lib.hid k4
        clear k4
        go_wp2_with (fail)
        refine (state2_any g vt o.lo _ ts HP.out.tab HP.out.len).mono ?_
        rintro e w2 ⟨rfl, hb2⟩
        have HP2 := Lib.hid (Pl.kept HP.out hb2)
        have HX2 := Lib.hid ((hb2.block b6 (lt_of_heap HX.out)).trans HX.out)
        clear hb2 c0 c1 c2 c3 c4
        obtain ⟨c0, c1, c2, c3, c4⟩ := box_cells HX2.out
        go_wp2_with (fail)
        refine (rstate2_any _ _ o.lo _ ts HP2.out.row HP.out.len).mono ?_
        rintro e w3 ⟨rfl, hb3⟩
        have HP3 := Lib.hid (Pl.kept HP2.out hb3)
        clear hb3 c0 c1 c2 c3 c4
        generalize sN ts o.lo = na at *
        generalize sE ts o.lo = ea at *
        have z1 : (na != na) = false := bne_self_eq_false _
        have z2 : (ea != ea) = false := bne_self_eq_false _
        go_wp2_with (fail)
        go_roundg (os.length - (i + 1))
        case measure => have := HQ.out; omega
        case rel => exact ⟨i + 1, by omega, by go_num, rfl, _, _, HP3.out⟩
      have n4 : (o.kind == 4) = false := beq_eq_false_iff_ne.2 k4
      clear k4
      go_wp2_with (fail)
      go_roundg (os.length - (i + 1))
      case measure => have := HQ.out; omega
      case rel => exact ⟨i + 1, by omega, by go_num, rfl, _, _, HP.out⟩
    · obtain rfl : i = os.length := by omega
      have G0 := Lib.hid (Granted_ok g vt wr ts HPr.out.tab HPr.out.len)
      go_wp2_with (fail)
      refine G0.out.mono ?_
      rintro e w2 ⟨u2, rfl, hu2, hb2⟩
      have HP2 := Lib.hid (Pl.kept HPr.out hb2)
      have HU2 := Lib.hid hu2
      clear hu2 hb2 G0
      have hl2 := those_le ts 2 ts.length
      have hl1 := those_le ts 1 ts.length
      have hlen := HPr.out.len
      go_wp2_with (fail)
      refine (rthose_any _ _ 2 _ ts HP2.out.row HP2.out.len).mono ?_
      rintro e w3 ⟨u3, rfl, hu3, hb3⟩
      have HU2' := Lib.hid (own_kept HU2.out (Only.of_below hb3 []) (by simp))
      have HP3 := Lib.hid (Pl.kept HP2.out hb3)
      have HU3 := Lib.hid hu3
      clear hu3 hb3 HU2
      go_wp2_with (fail)
      refine (same_ints _ _ _ _ _ _ HU2'.out HU3.out (by omega)).mono ?_
      rintro e w4 ⟨rfl, hb4⟩
      have HP4 := Lib.hid (Pl.kept HP3.out hb4)
      clear hb4 HU2' HU3
      have G4 := Lib.hid (Waiting_ok g vt w4 ts HP4.out.tab HP4.out.len)
      go_wp2_with (fail)
      refine G4.out.mono ?_
      rintro e w5 ⟨u5, rfl, hu5, hb5⟩
      have HP5 := Lib.hid (Pl.kept HP4.out hb5)
      have HU5 := Lib.hid hu5
      clear hu5 hb5 G4
      go_wp2_with (fail)
      refine (rthose_any _ _ 1 _ ts HP5.out.row HP5.out.len).mono ?_
      rintro e w6 ⟨u6, rfl, hu6, hb6⟩
      have HU5' := Lib.hid (own_kept HU5.out (Only.of_below hb6 []) (by simp))
      have HP6 := Lib.hid (Pl.kept HP5.out hb6)
      have HU6 := Lib.hid hu6
      clear hu6 hb6 HU5
      go_wp2_with (fail)
      refine (same_ints _ _ _ _ _ _ HU5'.out HU6.out (by omega)).mono ?_
      rintro e w7 ⟨rfl, hb7⟩
      have HP7 := Lib.hid (Pl.kept HP6.out hb7)
      clear hb7 HU5' HU6
      go_wp2_with (fail)
      go_ret
      exact ⟨rfl, HP7.out.below⟩
end Go.Proofs.Ytgegkebbbpapiaa.Dlm
