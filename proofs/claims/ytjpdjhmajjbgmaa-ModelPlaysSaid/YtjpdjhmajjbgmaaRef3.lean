/- The document's May, walked. -/
import Derived.Test.YtjpdjhmajjbgmaaRef2
namespace Go.Proofs.Ytjpdjhmajjbgmaa.Res
open Go.RowKit
set_option linter.unusedVariables false
set_option maxRecDepth 100000 in
set_option maxHeartbeats 4000000 in
theorem rMay_any (d : Dk) (n : Int) (write : Bool) (w : World) (hl : d.keys.length = 16) :
    Calls Try.prog 34 #[.agg d.cells, .int .i64 n, .bool write] w fun e w' => e = .returned (.bool (d.may n write)) ∧ Below w.heap.size w w' := by
  have C0 := fun W => rin_any n W
  have B0 : HasR (w.alloc (.cells d.cells 46)) w.heap.size d := ⟨heap_alloc_new w _, hl⟩
  have KB := Lib.hid ((Below.refl w.heap.size w).alloc (Nat.le_refl _) (.cells d.cells 46))
  by_cases hi : isIn n
  · rw [decide_eq_true hi] at C0
    have C := Lib.hid C0
    obtain ⟨m, rfl⟩ := Int.eq_ofNat_of_zero_le hi.1
    have hm : m < 16 := by have := hi.2; omega
    have c1 := B0.keyCell hm
    have c2 := B0.holderCell
    have c3 := B0.kindCell
    have hM : d.may (m : Int) write = (if d.kind = 0 ∨ d.holder = (m : Int) then true else if d.kind = 1 then !write else if d.kind = 3 then (!write || decide (d.key m ≠ 0)) else if d.kind = 4 then decide (d.key m ≠ 0) else false) := by
      unfold Dk.may; rw [if_pos hi]; rfl
    have hi2 := Lib.hid hi
    clear C0 B0 hl hi
    generalize d.may (m : Int) write = r at *
    generalize d.kind = kd at *
    generalize d.holder = hd at *
    generalize d.key m = km at *
    have K1 := Lib.hid c1
    have K2 := Lib.hid c2
    have K3 := Lib.hid c3
    clear c1 c2 c3
    by_cases k0 : kd = 0
    · have t0 := bT k0
      have hr : r = true := by rw [hM, if_pos (.inl k0)]
      have HR := Lib.hid hr
      clear hM hr k0
      go_enter Try.func34, Try.ntmps34
      go_wp2_with (fail)
      refine (C.out _).mono ?_
      rintro e w1 ⟨rfl, hw1⟩
      have HB := KB.out
      rw [← hw1] at HB
      have d1 := K1.out
      have d2 := K2.out
      have d3 := K3.out
      rw [← hw1] at d1 d2 d3
      have HBB := Lib.hid HB
      clear hw1 HB
      go_wp2_with (fail)
      go_ret
      exact ⟨by rw [HR.out]; rfl, HBB.out⟩
    by_cases hh : hd = (m : Int)
    · have t0 := bF k0
      have t1 := bT hh
      have hr : r = true := by rw [hM, if_pos (.inr hh)]
      have HR := Lib.hid hr
      clear hM hr k0 hh
      go_enter Try.func34, Try.ntmps34
      go_wp2_with (fail)
      refine (C.out _).mono ?_
      rintro e w1 ⟨rfl, hw1⟩
      have HB := KB.out
      rw [← hw1] at HB
      have d1 := K1.out
      have d2 := K2.out
      have d3 := K3.out
      rw [← hw1] at d1 d2 d3
      have HBB := Lib.hid HB
      clear hw1 HB
      go_wp2_with (fail)
      go_ret
      exact ⟨by rw [HR.out]; rfl, HBB.out⟩
    have t0 := bF k0
    have t1 := bF hh
    rw [if_neg (fun h => by rcases h with h | h; exact k0 h; exact hh h)] at hM
    clear k0 hh
    by_cases k1 : kd = 1
    · have u1 := bT k1
      have hr : r = !write := by rw [hM, if_pos k1]
      have HR := Lib.hid hr
      clear hM hr k1
      cases write
      all_goals
        go_enter Try.func34, Try.ntmps34
        go_wp2_with (fail)
        refine (C.out _).mono ?_
        rintro e w1 ⟨rfl, hw1⟩
        have HB := KB.out
        rw [← hw1] at HB
        have d1 := K1.out
        have d2 := K2.out
        have d3 := K3.out
        rw [← hw1] at d1 d2 d3
        have HBB := Lib.hid HB
        clear hw1 HB
        go_wp2_with (fail)
        go_ret
        exact ⟨by rw [HR.out]; rfl, HBB.out⟩
    have u1 := bF k1
    rw [if_neg k1] at hM
    clear k1
    by_cases k3 : kd = 3
    · have u3 := bT k3
      by_cases kz : km = 0
      · have z1 := nF kz
        have hr : r = !write := by rw [hM, if_pos k3, decide_eq_false (by simpa using kz), Bool.or_false]
        have HR := Lib.hid hr
        clear hM hr k3 kz
        cases write
        all_goals
          go_enter Try.func34, Try.ntmps34
          go_wp2_with (fail)
          refine (C.out _).mono ?_
          rintro e w1 ⟨rfl, hw1⟩
          have HB := KB.out
          rw [← hw1] at HB
          have d1 := K1.out
          have d2 := K2.out
          have d3 := K3.out
          rw [← hw1] at d1 d2 d3
          have HBB := Lib.hid HB
          clear hw1 HB
          go_wp2_with (fail)
          go_ret
          exact ⟨by rw [HR.out]; rfl, HBB.out⟩
      · have z1 := nT kz
        have hr : r = true := by rw [hM, if_pos k3, decide_eq_true kz, Bool.or_true]
        have HR := Lib.hid hr
        clear hM hr k3 kz
        cases write
        all_goals
          go_enter Try.func34, Try.ntmps34
          go_wp2_with (fail)
          refine (C.out _).mono ?_
          rintro e w1 ⟨rfl, hw1⟩
          have HB := KB.out
          rw [← hw1] at HB
          have d1 := K1.out
          have d2 := K2.out
          have d3 := K3.out
          rw [← hw1] at d1 d2 d3
          have HBB := Lib.hid HB
          clear hw1 HB
          go_wp2_with (fail)
          go_ret
          exact ⟨by rw [HR.out]; rfl, HBB.out⟩
    have u3 := bF k3
    rw [if_neg k3] at hM
    clear k3
    by_cases k4 : kd = 4
    · have u4 := bT k4
      by_cases kz : km = 0
      · have z1 := nF kz
        have hr : r = false := by rw [hM, if_pos k4, decide_eq_false (by simpa using kz)]
        have HR := Lib.hid hr
        clear hM hr k4 kz
        go_enter Try.func34, Try.ntmps34
        go_wp2_with (fail)
        refine (C.out _).mono ?_
        rintro e w1 ⟨rfl, hw1⟩
        have HB := KB.out
        rw [← hw1] at HB
        have d1 := K1.out
        have d2 := K2.out
        have d3 := K3.out
        rw [← hw1] at d1 d2 d3
        have HBB := Lib.hid HB
        clear hw1 HB
        go_wp2_with (fail)
        go_ret
        exact ⟨by rw [HR.out]; rfl, HBB.out⟩
      · have z1 := nT kz
        have hr : r = true := by rw [hM, if_pos k4, decide_eq_true kz]
        have HR := Lib.hid hr
        clear hM hr k4 kz
        go_enter Try.func34, Try.ntmps34
        go_wp2_with (fail)
        refine (C.out _).mono ?_
        rintro e w1 ⟨rfl, hw1⟩
        have HB := KB.out
        rw [← hw1] at HB
        have d1 := K1.out
        have d2 := K2.out
        have d3 := K3.out
        rw [← hw1] at d1 d2 d3
        have HBB := Lib.hid HB
        clear hw1 HB
        go_wp2_with (fail)
        go_ret
        exact ⟨by rw [HR.out]; rfl, HBB.out⟩
    have u4 := bF k4
    have hr : r = false := by rw [hM, if_neg k4]
    have HR := Lib.hid hr
    clear hM hr k4
    go_enter Try.func34, Try.ntmps34
    go_wp2_with (fail)
    refine (C.out _).mono ?_
    rintro e w1 ⟨rfl, hw1⟩
    have HB := KB.out
    rw [← hw1] at HB
    have d1 := K1.out
    have d2 := K2.out
    have d3 := K3.out
    rw [← hw1] at d1 d2 d3
    have HBB := Lib.hid HB
    clear hw1 HB
    go_wp2_with (fail)
    go_ret
    exact ⟨by rw [HR.out]; rfl, HBB.out⟩
  · rw [decide_eq_false hi] at C0
    have C := Lib.hid C0
    have hr : d.may n write = false := by unfold Dk.may; rw [if_neg hi]
    have HR := Lib.hid hr
    clear C0 hr hi
    go_enter Try.func34, Try.ntmps34
    go_wp2_with (fail)
    refine (C.out _).mono ?_
    rintro e w1 ⟨rfl, hw1⟩
    have HB := KB.out
    rw [← hw1] at HB
    have HBB := Lib.hid HB
    clear hw1 HB
    go_wp2_with (fail)
    go_ret
    exact ⟨by rw [HR.out]; rfl, HBB.out⟩
end Go.Proofs.Ytjpdjhmajjbgmaa.Res
