/- The walk of ReserveHolds, and the plain facts behind it. -/
import Derived.Test.YtiemlpkkbfojfaaOpIn
import Derived.Deep.LoopGhost
import Derived.Deep.DeepCutAuto
namespace Go.Proofs.Ytiemlpkkbfojfaa.Res
open Go.RowKit
set_option linter.unusedVariables false
/-- May a step end a reservation? -/
def endsB (kd ini ky h key : Int) : Bool := (((kd == 4) || (kd == 6)) || ((kd == 3) && (ini == h))) || (((kd == 1) && (ini == h)) && (ky == 0)) || ((kd == 5) && (ky == key))
theorem holds_stay {d : Dk} (hd : d.fine) (o : OpR) (hk : d.kind ≠ 0) (he : endsB o.kd o.ini o.ky d.hH (d.keyOf d.hH) = false) : (d.run o).kind = d.kind ∧ (d.run o).holder = d.holder := by
  have hh : d.hH = d.holder := by unfold Dk.hH; rw [if_neg hk]
  rw [hh] at he
  have hkey : d.keyOf d.holder = d.key d.holder.toNat := by unfold Dk.keyOf; rw [if_pos hd.holder]
  rw [hkey] at he
  unfold endsB at he
  simp only [Bool.or_eq_false_iff, Bool.and_eq_false_iff, beq_eq_false_iff_ne] at he
  obtain ⟨⟨⟨⟨n4, n6⟩, n3⟩, n1⟩, n5⟩ := he
  unfold Dk.run Dk.step
  by_cases k1 : o.kd = 1
  · rw [if_pos k1]
    have n1' : ¬ (o.ky = 0 ∧ d.holder = o.ini) := by rintro ⟨a, b⟩; rcases n1 with (h | h) | h; exact h k1; exact h b.symm; exact h a
    unfold Dk.reg
    by_cases hi : isIn o.ini
    · rw [if_pos hi]; exact ⟨by show (if o.ky = 0 ∧ d.holder = o.ini then 0 else d.kind) = d.kind; rw [if_neg n1'], rfl⟩
    · rw [if_neg hi]; exact ⟨rfl, rfl⟩
  rw [if_neg k1]
  by_cases k2 : o.kd = 2
  · rw [if_pos k2]
    unfold Dk.res
    by_cases hE : d.resE o.ini o.rs = 0
    · rw [if_pos hE]
      unfold Dk.resE at hE
      by_cases h1 : ¬ isIn o.ini ∨ o.rs < 1 ∨ 4 < o.rs
      · rw [if_pos h1] at hE; cases hE
      rw [if_neg h1] at hE
      by_cases h2 : d.key o.ini.toNat = 0
      · rw [if_pos h2] at hE; cases hE
      rw [if_neg h2] at hE
      by_cases h3 : d.kind ≠ 0 ∧ (d.holder ≠ o.ini ∨ d.kind ≠ o.rs)
      · rw [if_pos h3] at hE; cases hE
      constructor
      · exact Classical.byContradiction fun c => h3 ⟨hk, .inr fun e => c e.symm⟩
      · exact Classical.byContradiction fun c => h3 ⟨hk, .inl fun e => c e.symm⟩
    · rw [if_neg hE]; exact ⟨rfl, rfl⟩
  rw [if_neg k2]
  by_cases k3 : o.kd = 3
  · rw [if_pos k3]
    have n3' : ¬ d.holder = o.ini := by rcases n3 with h | h; exact absurd k3 h; exact fun e => h e.symm
    have hE : ¬ d.relE o.ini = 0 := by
      unfold Dk.relE
      by_cases hf : d.fault o.ini ≠ 0
      · rw [if_pos hf]; exact hf
      · rw [if_neg hf, if_pos ⟨hk, n3'⟩]; decide
    rw [rel_no hE]; exact ⟨rfl, rfl⟩
  rw [if_neg k3, if_neg n4]
  by_cases k5 : o.kd = 5
  · rw [if_pos k5]
    unfold Dk.pre
    split
    · refine ⟨rfl, ?_⟩
      show (if d.held o.ini o.ky 16 = true then o.ini else d.holder) = d.holder
      cases hx : d.held o.ini o.ky 16 with
      | false => rfl
      | true =>
        obtain ⟨_, _, i, h1, h2⟩ := held_spec hx
        rcases n5 with h | h
        · exact absurd k5 h
        · exact absurd (by rw [← h2, h1]; rfl) h
    · exact ⟨rfl, rfl⟩
  rw [if_neg k5, if_neg n6]
  exact ⟨rfl, rfl⟩
theorem may_free {d : Dk} (n : Nat) (hn : n < 16) (wr : Bool) (hk : d.kind = 0) : d.may (n : Int) wr = true := by
  unfold Dk.may; rw [if_pos ⟨by omega, by omega⟩, if_pos (.inl hk)]
theorem may_holder {d : Dk} (n : Nat) (hn : n < 16) (wr : Bool) (hh : d.holder = (n : Int)) : d.may (n : Int) wr = true := by
  unfold Dk.may; rw [if_pos ⟨by omega, by omega⟩, if_pos (.inr hh)]
theorem may_read {d : Dk} (n : Nat) (hn : n < 16) (h : d.may (n : Int) true = true) : d.may (n : Int) false = true := by
  unfold Dk.may at h ⊢
  have hi : isIn (n : Int) := ⟨by omega, by omega⟩
  rw [if_pos hi] at h ⊢
  split
  · rfl
  · rename_i h0
    rw [if_neg h0] at h
    split
    · rfl
    · rename_i h1
      rw [if_neg h1] at h
      split
      · rfl
      · rename_i h3
        rw [if_neg h3] at h
        exact h
theorem may_none {d : Dk} (hd : d.fine) (n : Nat) (hn : n < 16) (hk : d.kind ≠ 0) (hz : d.key n = 0) : d.may (n : Int) true = false := by
  unfold Dk.may
  have hi : isIn (n : Int) := ⟨by omega, by omega⟩
  rw [if_pos hi, if_neg, Int.toNat_natCast]
  · have hb : decide (d.key n ≠ 0) = false := by rw [decide_eq_false]; exact fun c => c hz
    split
    · rfl
    · split
      · rw [hb]; rfl
      · split
        · exact hb
        · rfl
  · rintro (c | c)
    · exact hk c
    · have := hd.key hk
      rw [c, Int.toNat_natCast] at this
      exact this hz
set_option maxRecDepth 100000 in
set_option maxHeartbeats 8000000 in
theorem holds_walk (A : Option Addr) (cap : Nat) (os : List OpR) (w : World) (hin : InOps w A os) (hlc : os.length ≤ cap) (hcm : cap ≤ maxLen) :
    Calls Try.prog 6 #[.slice A os.length cap] w fun e w' => e = .returned (.bool true) ∧ Below w.heap.size w w' := by
  have HIN := Lib.hid hin
  clear hin
  have hml : os.length ≤ 9223372036854775807 := by unfold maxLen at hcm; omega
  go_enter Try.func6, Try.ntmps6
  go_wp2_with (fail)
  refine (awake_any _).mono ?_
  rintro e w1 ⟨rfl, hb1⟩
  have HB1 := Lib.hid hb1
  have hs1 := hb1.size
  clear hb1
  go_wp2_with (fail)
  refine (new_any _).mono ?_
  rintro e w2 ⟨rfl, hw2⟩
  have hD0 := hasD_new w1
  rw [← hw2] at hD0
  have HD0 := Lib.hid hD0
  have HB2 := Lib.hid (show Below w.heap.size w w2 by rw [hw2]; exact HB1.out.alloc hs1 _)
  clear hw2 hD0
  generalize hg : w1.heap.size = g at *
  clear hg
  have hgw : w.heap.size ≤ g := hs1
  clear hs1
  obtain ⟨wi, hwi⟩ : ∃ wi : World, wi = w := ⟨_, rfl⟩
  go_wp2_with (fail)
  go_loopg [4] (os.length) (fun q v4 wr => ∃ i : Nat, i ≤ os.length ∧ v4 = .int .i64 i ∧ q = os.length - i ∧ (∃ d, HasD wr g d ∧ d.fine) ∧ Below w.heap.size w wr)
  case atStart => exact ⟨0, by omega, rfl, rfl, ⟨_, HD0.out, fine_new⟩, HB2.out⟩
  case round =>
    obtain ⟨i, hi, rfl, hq, ⟨d, hD, hfine⟩, hb⟩ := hrel
    have HF := Lib.hid hfine
    have HQ := Lib.hid hq
    have HD := Lib.hid hD
    have HB := Lib.hid hb
    have hgr := hD.lt
    clear hq hD hb hfine
    by_cases hlt : i < os.length
    · obtain ⟨o, ho⟩ : ∃ o, os[i]? = some o := ⟨_, List.getElem?_eq_getElem hlt⟩
      obtain ⟨b, off, rfl, hbl, c0, c1, c2, c3, c4⟩ : ∃ b off, A = some ⟨b, off, none⟩ ∧ b < w.heap.size ∧ wr.cell? ⟨b, off + i * 5, none⟩ = some (.int .i64 o.kd) ∧ wr.cell? ⟨b, off + i * 5 + 1, none⟩ = some (.int .i64 o.ini) ∧ wr.cell? ⟨b, off + i * 5 + 2, none⟩ = some (.int .i64 o.rs) ∧
          wr.cell? ⟨b, off + i * 5 + 3, none⟩ = some (.int .u64 o.ky) ∧ wr.cell? ⟨b, off + i * 5 + 4, none⟩ = some (.bool o.kp) := by
        rcases HIN.out with h | ⟨b, off, hA, hbl, h⟩
        · rw [h] at hlt; simp at hlt
        · refine ⟨b, off, hA, hbl, ?_⟩
          simp only [bcell HB.out b _ hbl]
          exact h i o ho
      clear ho
      go_upto_region 8 with (fail)
      have hO5 : Only [] wr (wr.alloc (.cells #[.int .i64 o.kd, .int .i64 o.ini, .int .i64 o.rs, .int .u64 o.ky, .bool o.kp] 45)) := (Only.refl [] _).alloc_ _
      have hB5 : (wr.alloc (.cells #[.int .i64 o.kd, .int .i64 o.ini, .int .i64 o.rs, .int .u64 o.ky, .bool o.kp] 45)).heap[wr.heap.size]? = some (.cells #[.int .i64 o.kd, .int .i64 o.ini, .int .i64 o.rs, .int .u64 o.ky, .bool o.kp] 45 (0, 0)) := heap_alloc_new wr _
      have HD1 := Lib.hid (HD.out.kept hO5 (by simp))
      have HB1 := Lib.hid (Only.below HB.out hO5 (by omega) (by simp))
      have HOP1 := Lib.hid hB5
      clear hO5 hB5 c0 c1 c2 c3 c4
      generalize wr.alloc (.cells #[.int .i64 o.kd, .int .i64 o.ini, .int .i64 o.rs, .int .u64 o.ky, .bool o.kp] 45) = w1 at *
      generalize hb5 : wr.heap.size = b5 at *
      have hgb : g ≠ b5 := by omega
      clear hb5
      go_wp2_with (fail)
      refine (Holder_any g d _ HD1.out).mono ?_
      rintro e w2 ⟨rfl, hb2⟩
      have HD2 := Lib.hid (HD1.out.below hb2)
      have HB2 := Lib.hid (HB1.out.trans (hb2.mono (by have := HD1.out.lt; omega)))
      have HOP2 := Lib.hid ((hb2.block b5 (lt_of_heap HOP1.out)).trans HOP1.out)
      clear hb2
      go_wp2_with (fail)
      refine (Key_any g d d.hH _ HD2.out).mono ?_
      rintro e w3 ⟨rfl, hw3⟩
      have hw3' : w3 = w2 := hw3
      clear hw3
      subst hw3'
      have c0 : w3.cell? ⟨b5, 0, none⟩ = some (.int .i64 o.kd) := by rw [cell_of_heap HOP2.out]; rfl
      have c1 : w3.cell? ⟨b5, 1, none⟩ = some (.int .i64 o.ini) := by rw [cell_of_heap HOP2.out]; rfl
      have c2 : w3.cell? ⟨b5, 2, none⟩ = some (.int .i64 o.rs) := by rw [cell_of_heap HOP2.out]; rfl
      have c3 : w3.cell? ⟨b5, 3, none⟩ = some (.int .u64 o.ky) := by rw [cell_of_heap HOP2.out]; rfl
      have c4 : w3.cell? ⟨b5, 4, none⟩ = some (.bool o.kp) := by rw [cell_of_heap HOP2.out]; rfl
      go_wp2_with (fail)
      refine (do_any g d Dk.new o.kd o.ini o.rs o.ky o.kp _ HD2.out rfl (fun h => absurd rfl h)).mono ?_
      rintro e w4 ⟨rfl, hd4, ho4⟩
      have HD4 : Hid (HasD w4 g (d.run o)) := Lib.hid hd4
      have HB4 := Lib.hid (Only.below HB2.out ho4 (by have := HD2.out.lt; omega) (by simp; omega))
      have HOP4 := Lib.hid ((ho4.block b5 (lt_of_heap HOP2.out) (by simp; omega)).trans HOP2.out)
      have HF4 := Lib.hid (fine_run HF.out o)
      have HST := Lib.hid (holds_stay HF.out o)
      clear hd4 ho4 c0 c1 c2 c3 c4
      generalize d.run o = d2 at *
      go_wp2_with (fail)
      refine (Holder_any g d2 _ HD4.out).mono ?_
      rintro e w5 ⟨rfl, hb5⟩
      have HD5 := Lib.hid (HD4.out.below hb5)
      have HB5 := Lib.hid (HB4.out.trans (hb5.mono (by have := HD4.out.lt; omega)))
      have HOP5 := Lib.hid ((hb5.block b5 (lt_of_heap HOP4.out)).trans HOP4.out)
      clear hb5
      have c0 : w5.cell? ⟨b5, 0, none⟩ = some (.int .i64 o.kd) := by rw [cell_of_heap HOP5.out]; rfl
      have c1 : w5.cell? ⟨b5, 1, none⟩ = some (.int .i64 o.ini) := by rw [cell_of_heap HOP5.out]; rfl
      have c3 : w5.cell? ⟨b5, 3, none⟩ = some (.int .u64 o.ky) := by rw [cell_of_heap HOP5.out]; rfl
      go_upto_region 12 with (fail)
      generalize hkk : d.keyOf d.hH = kh at *
      have HKH := Lib.hid hkk
      clear hkk
      go_cut [13] (fun v13 wx => v13 = .bool (endsB o.kd o.ini o.ky d.hH kh) ∧ w5 = wx)
      case first =>
        as_aux_lemma =>
          generalize d.hH = h at *
          generalize o.kd = kd at *
          generalize o.ini = ini at *
          generalize o.ky = ky at *
          by_cases n4 : kd = 4
          · subst n4
            go_wp2_with (fail); go_meet; exact ⟨rfl, rfl⟩
          by_cases n6 : kd = 6
          · subst n6
            go_wp2_with (fail); go_meet; exact ⟨rfl, rfl⟩
          by_cases n3 : kd = 3
          · subst n3
            by_cases q1 : ini = h
            · have q1b := bT q1
              have hv : endsB 3 ini ky h kh = true := by unfold endsB; rw [q1b]; rfl
              have HV := Lib.hid hv
              clear q1 hv
              go_wp2_with (fail); go_meet; exact ⟨by rw [HV.out], rfl⟩
            · have q1b := bF q1
              have hv : endsB 3 ini ky h kh = false := by unfold endsB; rw [q1b]; rfl
              have HV := Lib.hid hv
              clear q1 hv
              go_wp2_with (fail); go_meet; exact ⟨by rw [HV.out], rfl⟩
          by_cases n1 : kd = 1
          · subst n1
            by_cases q1 : ini = h
            · have q1b := bT q1
              by_cases q2 : ky = 0
              · have q2b := bT q2
                have hv : endsB 1 ini ky h kh = true := by unfold endsB; rw [q1b, q2b]; rfl
                have HV := Lib.hid hv
                clear q1 q2 hv
                go_wp2_with (fail); go_meet; exact ⟨by rw [HV.out], rfl⟩
              · have q2b := bF q2
                have hv : endsB 1 ini ky h kh = false := by unfold endsB; rw [q1b, q2b]; rfl
                have HV := Lib.hid hv
                clear q1 q2 hv
                go_wp2_with (fail); go_meet; exact ⟨by rw [HV.out], rfl⟩
            · have q1b := bF q1
              have hv : endsB 1 ini ky h kh = false := by unfold endsB; rw [q1b]; rfl
              have HV := Lib.hid hv
              clear q1 hv
              go_wp2_with (fail); go_meet; exact ⟨by rw [HV.out], rfl⟩
          by_cases n5 : kd = 5
          · subst n5
            by_cases q1 : ky = kh
            · have q1b := bT q1
              have hv : endsB 5 ini ky h kh = true := by unfold endsB; rw [q1b]; rfl
              have HV := Lib.hid hv
              clear q1 hv
              go_wp2_with (fail); go_meet; exact ⟨by rw [HV.out], rfl⟩
            · have q1b := bF q1
              have hv : endsB 5 ini ky h kh = false := by unfold endsB; rw [q1b]; rfl
              have HV := Lib.hid hv
              clear q1 hv
              go_wp2_with (fail); go_meet; exact ⟨by rw [HV.out], rfl⟩
          have m1 := bF n1
          have m3 := bF n3
          have m4 := bF n4
          have m5 := bF n5
          have m6 := bF n6
          have hv : endsB kd ini ky h kh = false := by unfold endsB; rw [m1, m3, m4, m5, m6]; rfl
          have HV := Lib.hid hv
          clear n1 n3 n4 n5 n6 hv
          go_wp2_with (fail); go_meet; exact ⟨by rw [HV.out], rfl⟩
      case rest =>
        as_aux_lemma =>
          obtain ⟨rfl, rfl⟩ := hcut
          clear c0 c1 c3
          generalize hB : endsB o.kd o.ini o.ky d.hH kh = B at *
          have HBE := Lib.hid hB
          clear hB
          go_upto_region 13 with (fail)
          go_cut [112] (fun v112 wx => v112 = .bool false ∧ w5 = wx)
          case first =>
            as_aux_lemma =>
              by_cases hk : d.kind = 0
              · have t1 : (d.hE == 0) = false := by unfold Dk.hE; rw [if_pos hk]; rfl
                clear hk
                go_wp2_with (fail); go_meet; exact ⟨rfl, rfl⟩
              · have t1 : (d.hE == 0) = true := by unfold Dk.hE; rw [if_neg hk]; rfl
                cases B with
                | true =>
                  clear hk
                  go_wp2_with (fail); go_meet; exact ⟨rfl, rfl⟩
                | false =>
                  obtain ⟨e1, e2⟩ := HST.out hk rfl
                  have t2 : (d2.hE != 0) = false := by unfold Dk.hE; rw [e1, if_neg hk]; rfl
                  have t3 : (d2.hH != d.hH) = false := by unfold Dk.hH; rw [e1, e2, if_neg hk, bne_eq_false_iff_eq]
                  have t4 : (d2.kind != d.kind) = false := by rw [e1, bne_eq_false_iff_eq]
                  clear hk e1 e2
                  go_wp2_with (fail); go_meet; exact ⟨rfl, rfl⟩
          case rest =>
            as_aux_lemma =>
              obtain ⟨rfl, rfl⟩ := hcut
              obtain ⟨wo, rfl⟩ : ∃ wo : World, wo = wr := ⟨_, rfl⟩
              go_wp2_with (fail)
              go_loopg [14] (16) (fun q v14 wr => ∃ j : Nat, j ≤ 16 ∧ v14 = .int .i64 j ∧ q = 16 - j ∧ HasD wr g d2 ∧ Below w.heap.size w wr)
              case atStart => exact ⟨0, by omega, rfl, rfl, HD5.out, HB5.out⟩
              case round =>
                obtain ⟨j, hj, rfl, hq, hD, hb⟩ := hrel
                have HQ6 := Lib.hid hq
                have HD6 := Lib.hid hD
                have HB6 := Lib.hid hb
                have hg6 := hD.lt
                clear hq hD hb
                by_cases hk : d2.kind = 0
                · have t1 : (d2.hE == 0) = false := by unfold Dk.hE; rw [if_pos hk]; rfl
                  have t2 : (d2.hE != 0) = true := by unfold Dk.hE; rw [if_pos hk]; rfl
                  by_cases hlj : j < 16
                  · have a1 := May_any g d2 (j : Int) true wr HD6.out
                    have a0 := May_any g d2 (j : Int) false wr HD6.out
                    have b0 := Key_any g d2 (j : Int) wr HD6.out
                    rw [may_free j hlj true hk] at a1
                    rw [may_free j hlj false hk] at a0
                    have M1 := Lib.hid a1
                    have M0 := Lib.hid a0
                    have K0 := Lib.hid b0
                    clear a1 a0 b0 hk
                    by_cases hz : d2.keyOf (j : Int) = 0
                    · have hzb := bT hz
                      clear hz
                      go_wp2_with (fail)
                      (refine (M1.out).mono ?_; rintro e w' ⟨rfl, rfl⟩; go_wp2_with (fail); refine (M0.out).mono ?_; rintro e w' ⟨rfl, rfl⟩; go_wp2_with (fail); refine (K0.out).mono ?_; rintro e w' ⟨rfl, rfl⟩; go_wp2_with (fail); refine (M1.out).mono ?_; rintro e w' ⟨rfl, rfl⟩; go_wp2_with (fail))
                      go_roundg (16 - (j + 1))
                      case measure => have := HQ6.out; omega
                      case rel => exact ⟨j + 1, by omega, by go_num, rfl, HD6.out, HB6.out⟩
                    · have hzb := bF hz
                      clear hz
                      go_wp2_with (fail)
                      (refine (M1.out).mono ?_; rintro e w' ⟨rfl, rfl⟩; go_wp2_with (fail); refine (M0.out).mono ?_; rintro e w' ⟨rfl, rfl⟩; go_wp2_with (fail); refine (K0.out).mono ?_; rintro e w' ⟨rfl, rfl⟩; go_wp2_with (fail))
                      go_roundg (16 - (j + 1))
                      case measure => have := HQ6.out; omega
                      case rel => exact ⟨j + 1, by omega, by go_num, rfl, HD6.out, HB6.out⟩
                  · obtain rfl : j = 16 := by omega
                    clear hk
                    go_wp2_with (fail)
                    go_roundg (os.length - (i + 1))
                    case measure => have := HQ.out; omega
                    case rel => exact ⟨i + 1, by omega, by go_num, rfl, ⟨_, HD6.out, HF4.out⟩, HB6.out⟩
                · have t1 : (d2.hE == 0) = true := by unfold Dk.hE; rw [if_neg hk]; rfl
                  have t2 : (d2.hE != 0) = false := by unfold Dk.hE; rw [if_neg hk]; rfl
                  have hh : d2.hH = d2.holder := by unfold Dk.hH; rw [if_neg hk]
                  by_cases hlj : j < 16
                  · have a1 := May_any g d2 (j : Int) true wr HD6.out
                    have a0 := May_any g d2 (j : Int) false wr HD6.out
                    have b0 := Key_any g d2 (j : Int) wr HD6.out
                    have hko : d2.keyOf (j : Int) = d2.key j := keyOf_at d2 j hlj
                    by_cases hx : (j : Int) = d2.hH
                    · have hxb := bT hx
                      rw [may_holder j hlj true (by rw [← hh, hx])] at a1
                      rw [may_holder j hlj false (by rw [← hh, hx])] at a0
                      have hz : ¬ d2.keyOf (j : Int) = 0 := by
                        rw [hko]
                        have := HF4.out.key hk
                        rw [← hh, ← hx, Int.toNat_natCast] at this
                        exact this
                      have hzb := bF hz
                      have M1 := Lib.hid a1
                      have M0 := Lib.hid a0
                      have K0 := Lib.hid b0
                      clear a1 a0 b0 hk hz hx hh hko
                      go_wp2_with (fail)
                      (refine (M1.out).mono ?_; rintro e w' ⟨rfl, rfl⟩; go_wp2_with (fail); refine (M0.out).mono ?_; rintro e w' ⟨rfl, rfl⟩; go_wp2_with (fail); refine (M1.out).mono ?_; rintro e w' ⟨rfl, rfl⟩; go_wp2_with (fail); refine (K0.out).mono ?_; rintro e w' ⟨rfl, rfl⟩; go_wp2_with (fail))
                      go_roundg (16 - (j + 1))
                      case measure => have := HQ6.out; omega
                      case rel => exact ⟨j + 1, by omega, by go_num, rfl, HD6.out, HB6.out⟩
                    · have hxb := bF hx
                      by_cases hz : d2.keyOf (j : Int) = 0
                      · have hzb := bT hz
                        rw [may_none HF4.out j hlj hk (by rw [← hko]; exact hz)] at a1
                        have M1 := Lib.hid a1
                        have M0 := Lib.hid a0
                        have K0 := Lib.hid b0
                        clear a1 a0 b0 hk hz hx hh hko
                        go_wp2_with (fail)
                        (refine (M1.out).mono ?_; rintro e w' ⟨rfl, rfl⟩; go_wp2_with (fail); refine (K0.out).mono ?_; rintro e w' ⟨rfl, rfl⟩; go_wp2_with (fail); refine (M1.out).mono ?_; rintro e w' ⟨rfl, rfl⟩; go_wp2_with (fail))
                        go_roundg (16 - (j + 1))
                        case measure => have := HQ6.out; omega
                        case rel => exact ⟨j + 1, by omega, by go_num, rfl, HD6.out, HB6.out⟩
                      · have hzb := bF hz
                        cases hm : d2.may (j : Int) true with
                        | true =>
                          rw [hm] at a1
                          rw [may_read j hlj hm] at a0
                          have M1 := Lib.hid a1
                          have M0 := Lib.hid a0
                          have K0 := Lib.hid b0
                          clear a1 a0 b0 hk hz hx hh hko hm
                          go_wp2_with (fail)
                          (refine (M1.out).mono ?_; rintro e w' ⟨rfl, rfl⟩; go_wp2_with (fail); refine (M0.out).mono ?_; rintro e w' ⟨rfl, rfl⟩; go_wp2_with (fail); refine (K0.out).mono ?_; rintro e w' ⟨rfl, rfl⟩; go_wp2_with (fail))
                          go_roundg (16 - (j + 1))
                          case measure => have := HQ6.out; omega
                          case rel => exact ⟨j + 1, by omega, by go_num, rfl, HD6.out, HB6.out⟩
                        | false =>
                          rw [hm] at a1
                          have M1 := Lib.hid a1
                          have M0 := Lib.hid a0
                          have K0 := Lib.hid b0
                          clear a1 a0 b0 hk hz hx hh hko hm
                          go_wp2_with (fail)
                          (refine (M1.out).mono ?_; rintro e w' ⟨rfl, rfl⟩; go_wp2_with (fail); refine (K0.out).mono ?_; rintro e w' ⟨rfl, rfl⟩; go_wp2_with (fail))
                          go_roundg (16 - (j + 1))
                          case measure => have := HQ6.out; omega
                          case rel => exact ⟨j + 1, by omega, by go_num, rfl, HD6.out, HB6.out⟩
                  · obtain rfl : j = 16 := by omega
                    have b0 := Key_any g d2 d2.hH wr HD6.out
                    have hz : ¬ d2.keyOf d2.hH = 0 := by
                      have hi := HF4.out.holder
                      rw [hh]
                      unfold Dk.keyOf
                      rw [if_pos hi]
                      exact HF4.out.key hk
                    have hzb := bF hz
                    have K0 := Lib.hid b0
                    clear b0 hz hk hh
                    go_wp2_with (fail)
                    refine (K0.out).mono ?_
                    rintro e w' ⟨rfl, rfl⟩
                    go_wp2_with (fail)
                    go_roundg (os.length - (i + 1))
                    case measure => have := HQ.out; omega
                    case rel => exact ⟨i + 1, by omega, by go_num, rfl, ⟨_, HD6.out, HF4.out⟩, HB6.out⟩
    · obtain rfl : i = os.length := by omega
      go_wp2_with (fail)
      go_ret
      exact ⟨rfl, HB.out⟩
end Go.Proofs.Ytiemlpkkbfojfaa.Res
