/- The walks of reserve's Register, Reserve, Release, Clear, May, Holder, Key and Lose. -/
import Derived.Test.YtjpdjhmajjbgmaaDesk1
namespace Go.Proofs.Ytjpdjhmajjbgmaa.Res
open Go.RowKit
set_option linter.unusedVariables false
theorem bT {a b : Int} (h : a = b) : (a == b) = true := beq_iff_eq.2 h
theorem bF {a b : Int} (h : ¬ a = b) : (a == b) = false := beq_eq_false_iff_ne.2 h
theorem nT {a b : Int} (h : ¬ a = b) : (a != b) = true := bne_iff_ne.2 h
theorem nF {a b : Int} (h : a = b) : (a != b) = false := bne_eq_false_iff_eq.2 h
theorem Register_any (g : Nat) (d : Dk) (n k : Int) (keep : Bool) (w : World) (h : HasD w g d) :
    Calls Try.prog 27 #[.pointer (some ⟨g, 0, none⟩), .int .i64 n, .int .u64 k, .bool keep] w fun e w' => e = .returned (.int .i64 (d.regE n)) ∧ HasD w' g (d.reg n k keep) ∧ Only [g] w w' := by
  have C0 := in_any g n w
  by_cases hi : isIn n
  · rw [decide_eq_true hi] at C0
    have C := Lib.hid C0
    have H := Lib.hid h
    obtain ⟨m, rfl⟩ := Int.eq_ofNat_of_zero_le hi.1
    have hm : m < 16 := by have := hi.2; omega
    have c1 := h.keyCell hm
    have f1 := h.frozen m
    have c2 := h.holderCell
    have c3 := h.kindCell
    have f3 := h.frozen 17
    have c4 := h.keepCell
    have f4 := h.frozen 18
    have hE : d.regE (m : Int) = 0 := by unfold Dk.regE; rw [if_pos hi]
    have HE := Lib.hid hE
    have hD : d.reg (m : Int) k keep = ⟨d.keys.set m k, d.holder, if k = 0 ∧ d.holder = (m : Int) then 0 else d.kind, keep⟩ := by unfold Dk.reg; rw [if_pos hi]; rfl
    have HDD := Lib.hid hD
    have HI := Lib.hid hi
    clear C0 hE hD h hi
    by_cases hk : k = 0
    · have hkb := bT hk
      by_cases hh : d.holder = (m : Int)
      · have hhb := bT hh
        have HK := Lib.hid (And.intro hk hh)
        clear hk hh
        go_enter Try.func27, Try.ntmps27
        go_wp2_with (fail)
        refine C.out.mono ?_
        rintro e w' ⟨rfl, rfl⟩
        go_wp2_with (fail)
        go_ret
        refine ⟨by rw [HE.out]; rfl, ?_, (((Only.refl [g] _).set_ (p := ⟨g, m, none⟩) (by simp) _).set_ (p := ⟨g, 18, none⟩) (by simp) _).set_ (p := ⟨g, 17, none⟩) (by simp) _⟩
        rw [HDD.out, if_pos HK.out]
        exact ((H.out.setKey hm k).setKeep keep).setKind 0
      · have hhb := bF hh
        have HK := Lib.hid (fun h : k = 0 ∧ d.holder = (m : Int) => hh h.2)
        clear hk hh
        go_enter Try.func27, Try.ntmps27
        go_wp2_with (fail)
        refine C.out.mono ?_
        rintro e w' ⟨rfl, rfl⟩
        go_wp2_with (fail)
        go_ret
        refine ⟨by rw [HE.out]; rfl, ?_, ((Only.refl [g] _).set_ (p := ⟨g, m, none⟩) (by simp) _).set_ (p := ⟨g, 18, none⟩) (by simp) _⟩
        rw [HDD.out, if_neg HK.out]
        exact (H.out.setKey hm k).setKeep keep
    · have hkb := bF hk
      have HK := Lib.hid (fun h : k = 0 ∧ d.holder = (m : Int) => hk h.1)
      clear hk
      go_enter Try.func27, Try.ntmps27
      go_wp2_with (fail)
      refine C.out.mono ?_
      rintro e w' ⟨rfl, rfl⟩
      go_wp2_with (fail)
      go_ret
      refine ⟨by rw [HE.out]; rfl, ?_, ((Only.refl [g] _).set_ (p := ⟨g, m, none⟩) (by simp) _).set_ (p := ⟨g, 18, none⟩) (by simp) _⟩
      rw [HDD.out, if_neg HK.out]
      exact (H.out.setKey hm k).setKeep keep
  · rw [decide_eq_false hi] at C0
    have C := Lib.hid C0
    have H := Lib.hid h
    have hE : d.regE n = 2 := by unfold Dk.regE; rw [if_neg hi]
    have hD : d.reg n k keep = d := by unfold Dk.reg; rw [if_neg hi]
    have HE := Lib.hid hE
    have HDD := Lib.hid hD
    clear C0 hE hD h hi
    go_enter Try.func27, Try.ntmps27
    go_wp2_with (fail)
    refine C.out.mono ?_
    rintro e w' ⟨rfl, rfl⟩
    go_wp2_with (fail)
    go_ret
    exact ⟨by rw [HE.out]; rfl, by rw [HDD.out]; exact H.out, Only.refl _ _⟩
theorem fault_out {d : Dk} {n : Int} (h : ¬ isIn n) : d.fault n = 2 := by unfold Dk.fault; rw [if_neg h]
theorem fault_none {d : Dk} {n : Int} (h : isIn n) (hk : d.key n.toNat = 0) : d.fault n = 10 := by unfold Dk.fault; rw [if_pos h, if_pos hk]
theorem fault_ok {d : Dk} {n : Int} (h : isIn n) (hk : ¬ d.key n.toNat = 0) : d.fault n = 0 := by unfold Dk.fault; rw [if_pos h, if_neg hk]
/-- A walk that answers e and leaves the desk as it is. -/
theorem keeps {g : Nat} {d d' : Dk} {w : World} {e e' : Int} (h : HasD w g d) (he : e = e') (hd : d' = d) : Ending.returned (.int .i64 e) = .returned (.int .i64 e') ∧ HasD w g d' ∧ Only [g] w w := ⟨by rw [he], by rw [hd]; exact h, Only.refl _ _⟩
theorem Reserve_any (g : Nat) (d : Dk) (n k : Int) (w : World) (h : HasD w g d) :
    Calls Try.prog 28 #[.pointer (some ⟨g, 0, none⟩), .int .i64 n, .int .i64 k] w fun e w' => e = .returned (.int .i64 (d.resE n k)) ∧ HasD w' g (d.res n k) ∧ Only [g] w w' := by
  have C0 := fault_any g d n w h
  have H := Lib.hid h
  have c2 := h.holderCell
  have c3 := h.kindCell
  have f2 := h.frozen 16
  have f3 := h.frozen 17
  by_cases hi : isIn n
  · by_cases hz : d.key n.toNat = 0
    · by_cases hk1 : k < 1
      · have hE : d.resE n k = 2 := by unfold Dk.resE; rw [if_pos (.inr (.inl hk1))]
        have hD : d.res n k = d := by unfold Dk.res; rw [if_neg (by rw [hE]; decide)]
        rw [fault_none hi hz] at C0
        have C := Lib.hid C0
        have HE := Lib.hid hE
        have HDD := Lib.hid hD
        clear hi hz
        clear C0 hE hD h
        go_enter Try.func28, Try.ntmps28
        go_wp2_with (fail)
        refine C.out.mono ?_
        rintro e w' ⟨rfl, rfl⟩
        go_wp2_with (fail)
        go_ret
        exact keeps H.out HE.out.symm HDD.out
      by_cases hk2 : 4 < k
      · have hE : d.resE n k = 2 := by unfold Dk.resE; rw [if_pos (.inr (.inr hk2))]
        have hD : d.res n k = d := by unfold Dk.res; rw [if_neg (by rw [hE]; decide)]
        rw [fault_none hi hz] at C0
        have C := Lib.hid C0
        have HE := Lib.hid hE
        have HDD := Lib.hid hD
        clear hi hz
        clear C0 hE hD h
        go_enter Try.func28, Try.ntmps28
        go_wp2_with (fail)
        refine C.out.mono ?_
        rintro e w' ⟨rfl, rfl⟩
        go_wp2_with (fail)
        go_ret
        exact keeps H.out HE.out.symm HDD.out
      have hbad : ¬ (¬ isIn n ∨ k < 1 ∨ 4 < k) := fun h => by rcases h with h | h | h; exact h hi; exact hk1 h; exact hk2 h
      have hE : d.resE n k = 10 := by unfold Dk.resE; rw [if_neg hbad, if_pos hz]
      have hD : d.res n k = d := by unfold Dk.res; rw [if_neg (by rw [hE]; decide)]
      rw [fault_none hi hz] at C0
      have C := Lib.hid C0
      have HE := Lib.hid hE
      have HDD := Lib.hid hD
      clear hi hz hbad
      clear C0 hE hD h
      go_enter Try.func28, Try.ntmps28
      go_wp2_with (fail)
      refine C.out.mono ?_
      rintro e w' ⟨rfl, rfl⟩
      go_wp2_with (fail)
      go_ret
      exact keeps H.out HE.out.symm HDD.out
    · by_cases hk1 : k < 1
      · have hE : d.resE n k = 2 := by unfold Dk.resE; rw [if_pos (.inr (.inl hk1))]
        have hD : d.res n k = d := by unfold Dk.res; rw [if_neg (by rw [hE]; decide)]
        rw [fault_ok hi hz] at C0
        have C := Lib.hid C0
        have HE := Lib.hid hE
        have HDD := Lib.hid hD
        clear hi hz
        clear C0 hE hD h
        go_enter Try.func28, Try.ntmps28
        go_wp2_with (fail)
        refine C.out.mono ?_
        rintro e w' ⟨rfl, rfl⟩
        go_wp2_with (fail)
        go_ret
        exact keeps H.out HE.out.symm HDD.out
      by_cases hk2 : 4 < k
      · have hE : d.resE n k = 2 := by unfold Dk.resE; rw [if_pos (.inr (.inr hk2))]
        have hD : d.res n k = d := by unfold Dk.res; rw [if_neg (by rw [hE]; decide)]
        rw [fault_ok hi hz] at C0
        have C := Lib.hid C0
        have HE := Lib.hid hE
        have HDD := Lib.hid hD
        clear hi hz
        clear C0 hE hD h
        go_enter Try.func28, Try.ntmps28
        go_wp2_with (fail)
        refine C.out.mono ?_
        rintro e w' ⟨rfl, rfl⟩
        go_wp2_with (fail)
        go_ret
        exact keeps H.out HE.out.symm HDD.out
      have hbad : ¬ (¬ isIn n ∨ k < 1 ∨ 4 < k) := fun h => by rcases h with h | h | h; exact h hi; exact hk1 h; exact hk2 h
      by_cases hkd : d.kind = 0
      · have hE : d.resE n k = 0 := by unfold Dk.resE; rw [if_neg hbad, if_neg hz, if_neg (fun h => h.1 hkd)]
        have hD : d.res n k = { d with holder := n, kind := k } := by unfold Dk.res; rw [if_pos hE]
        rw [fault_ok hi hz] at C0
        have C := Lib.hid C0
        have HE := Lib.hid hE
        have HDD := Lib.hid hD
        have t1 := nF hkd
        clear hi hz hbad hkd
        clear C0 hE hD h
        go_enter Try.func28, Try.ntmps28
        go_wp2_with (fail)
        refine C.out.mono ?_
        rintro e w' ⟨rfl, rfl⟩
        go_wp2_with (fail)
        go_ret
        refine ⟨by rw [HE.out]; rfl, ?_, ((Only.refl [g] _).set_ (p := ⟨g, 16, none⟩) (by simp) _).set_ (p := ⟨g, 17, none⟩) (by simp) _⟩
        rw [HDD.out]
        exact (H.out.setHolder n).setKind k
      by_cases hho : d.holder = n
      · by_cases hkk : d.kind = k
        · have hE : d.resE n k = 0 := by unfold Dk.resE; rw [if_neg hbad, if_neg hz, if_neg (fun h => h.2.elim (fun h => h hho) (fun h => h hkk))]
          have hD : d.res n k = { d with holder := n, kind := k } := by unfold Dk.res; rw [if_pos hE]
          rw [fault_ok hi hz] at C0
          have C := Lib.hid C0
          have HE := Lib.hid hE
          have HDD := Lib.hid hD
          have t1 := nT hkd
          have t2 := nF hho
          have t3 := nF hkk
          clear hi hz hbad hkd hho hkk
          clear C0 hE hD h
          go_enter Try.func28, Try.ntmps28
          go_wp2_with (fail)
          refine C.out.mono ?_
          rintro e w' ⟨rfl, rfl⟩
          go_wp2_with (fail)
          go_ret
          refine ⟨by rw [HE.out]; rfl, ?_, ((Only.refl [g] _).set_ (p := ⟨g, 16, none⟩) (by simp) _).set_ (p := ⟨g, 17, none⟩) (by simp) _⟩
          rw [HDD.out]
          exact (H.out.setHolder n).setKind k
        · have hE : d.resE n k = 12 := by unfold Dk.resE; rw [if_neg hbad, if_neg hz, if_pos ⟨hkd, .inr hkk⟩]
          have hD : d.res n k = d := by unfold Dk.res; rw [if_neg (by rw [hE]; decide)]
          rw [fault_ok hi hz] at C0
          have C := Lib.hid C0
          have HE := Lib.hid hE
          have HDD := Lib.hid hD
          have t1 := nT hkd
          have t2 := nF hho
          have t3 := nT hkk
          clear hi hz hbad hkd hho hkk
          clear C0 hE hD h
          go_enter Try.func28, Try.ntmps28
          go_wp2_with (fail)
          refine C.out.mono ?_
          rintro e w' ⟨rfl, rfl⟩
          go_wp2_with (fail)
          go_ret
          exact keeps H.out HE.out.symm HDD.out
      · have hE : d.resE n k = 12 := by unfold Dk.resE; rw [if_neg hbad, if_neg hz, if_pos ⟨hkd, .inl hho⟩]
        have hD : d.res n k = d := by unfold Dk.res; rw [if_neg (by rw [hE]; decide)]
        rw [fault_ok hi hz] at C0
        have C := Lib.hid C0
        have HE := Lib.hid hE
        have HDD := Lib.hid hD
        have t1 := nT hkd
        have t2 := nT hho
        clear hi hz hbad hkd hho
        clear C0 hE hD h
        go_enter Try.func28, Try.ntmps28
        go_wp2_with (fail)
        refine C.out.mono ?_
        rintro e w' ⟨rfl, rfl⟩
        go_wp2_with (fail)
        go_ret
        exact keeps H.out HE.out.symm HDD.out
  · have hE : d.resE n k = 2 := by unfold Dk.resE; rw [if_pos (.inl hi)]
    have hD : d.res n k = d := by unfold Dk.res; rw [if_neg (by rw [hE]; decide)]
    rw [fault_out hi] at C0
    have C := Lib.hid C0
    have HE := Lib.hid hE
    have HDD := Lib.hid hD
    clear hi
    clear C0 hE hD h
    go_enter Try.func28, Try.ntmps28
    go_wp2_with (fail)
    refine C.out.mono ?_
    rintro e w' ⟨rfl, rfl⟩
    go_wp2_with (fail)
    go_ret
    exact keeps H.out HE.out.symm HDD.out
theorem Release_any (g : Nat) (d : Dk) (n : Int) (w : World) (h : HasD w g d) :
    Calls Try.prog 29 #[.pointer (some ⟨g, 0, none⟩), .int .i64 n] w fun e w' => e = .returned (.int .i64 (d.relE n)) ∧ HasD w' g (d.rel n) ∧ Only [g] w w' := by
  have C0 := fault_any g d n w h
  have H := Lib.hid h
  have c2 := h.holderCell
  have c3 := h.kindCell
  have f2 := h.frozen 16
  have f3 := h.frozen 17
  by_cases hi : isIn n
  · by_cases hz : d.key n.toNat = 0
    · have hE : d.relE n = 10 := by unfold Dk.relE; rw [fault_none hi hz]; rfl
      have hD : d.rel n = d := by unfold Dk.rel; rw [if_neg (by rw [hE]; decide)]
      rw [fault_none hi hz] at C0
      have C := Lib.hid C0
      have HE := Lib.hid hE
      have HDD := Lib.hid hD
      clear hi hz
      clear C0 hE hD h
      go_enter Try.func29, Try.ntmps29
      go_wp2_with (fail)
      refine C.out.mono ?_
      rintro e w' ⟨rfl, rfl⟩
      go_wp2_with (fail)
      go_ret
      exact keeps H.out HE.out.symm HDD.out
    · by_cases hkd : d.kind = 0
      · have hE : d.relE n = 0 := by unfold Dk.relE; rw [fault_ok hi hz, if_neg (by decide), if_neg (fun h => h.1 hkd)]
        have hD : d.rel n = { d with kind := 0 } := by unfold Dk.rel; rw [if_pos hE]
        rw [fault_ok hi hz] at C0
        have C := Lib.hid C0
        have HE := Lib.hid hE
        have HDD := Lib.hid hD
        have t1 := nF hkd
        clear hi hz hkd
        clear C0 hE hD h
        go_enter Try.func29, Try.ntmps29
        go_wp2_with (fail)
        refine C.out.mono ?_
        rintro e w' ⟨rfl, rfl⟩
        go_wp2_with (fail)
        go_ret
        refine ⟨by rw [HE.out]; rfl, ?_, (Only.refl [g] _).set_ (p := ⟨g, 17, none⟩) (by simp) _⟩
        rw [HDD.out]
        exact H.out.setKind 0
      by_cases hho : d.holder = n
      · have hE : d.relE n = 0 := by unfold Dk.relE; rw [fault_ok hi hz, if_neg (by decide), if_neg (fun h => h.2 hho)]
        have hD : d.rel n = { d with kind := 0 } := by unfold Dk.rel; rw [if_pos hE]
        rw [fault_ok hi hz] at C0
        have C := Lib.hid C0
        have HE := Lib.hid hE
        have HDD := Lib.hid hD
        have t1 := nT hkd
        have t2 := nF hho
        clear hi hz hkd hho
        clear C0 hE hD h
        go_enter Try.func29, Try.ntmps29
        go_wp2_with (fail)
        refine C.out.mono ?_
        rintro e w' ⟨rfl, rfl⟩
        go_wp2_with (fail)
        go_ret
        refine ⟨by rw [HE.out]; rfl, ?_, (Only.refl [g] _).set_ (p := ⟨g, 17, none⟩) (by simp) _⟩
        rw [HDD.out]
        exact H.out.setKind 0
      · have hE : d.relE n = 12 := by unfold Dk.relE; rw [fault_ok hi hz, if_neg (by decide), if_pos ⟨hkd, hho⟩]
        have hD : d.rel n = d := by unfold Dk.rel; rw [if_neg (by rw [hE]; decide)]
        rw [fault_ok hi hz] at C0
        have C := Lib.hid C0
        have HE := Lib.hid hE
        have HDD := Lib.hid hD
        have t1 := nT hkd
        have t2 := nT hho
        clear hi hz hkd hho
        clear C0 hE hD h
        go_enter Try.func29, Try.ntmps29
        go_wp2_with (fail)
        refine C.out.mono ?_
        rintro e w' ⟨rfl, rfl⟩
        go_wp2_with (fail)
        go_ret
        exact keeps H.out HE.out.symm HDD.out
  · have hE : d.relE n = 2 := by unfold Dk.relE; rw [fault_out hi]; rfl
    have hD : d.rel n = d := by unfold Dk.rel; rw [if_neg (by rw [hE]; decide)]
    rw [fault_out hi] at C0
    have C := Lib.hid C0
    have HE := Lib.hid hE
    have HDD := Lib.hid hD
    clear hi
    clear C0 hE hD h
    go_enter Try.func29, Try.ntmps29
    go_wp2_with (fail)
    refine C.out.mono ?_
    rintro e w' ⟨rfl, rfl⟩
    go_wp2_with (fail)
    go_ret
    exact keeps H.out HE.out.symm HDD.out
theorem Clear_any (g : Nat) (d : Dk) (n : Int) (w : World) (h : HasD w g d) :
    Calls Try.prog 30 #[.pointer (some ⟨g, 0, none⟩), .int .i64 n] w fun e w' => e = .returned (.int .i64 (d.fault n)) ∧ HasD w' g (d.clr n) ∧ Only [g] w w' := by
  have C0 := fault_any g d n w h
  have H := Lib.hid h
  have c2 := h.holderCell
  have c3 := h.kindCell
  have f2 := h.frozen 16
  have f3 := h.frozen 17
  by_cases hi : isIn n
  · by_cases hz : d.key n.toNat = 0
    · have hE : d.fault n = 10 := fault_none hi hz
      have hD : d.clr n = d := by unfold Dk.clr; rw [if_neg (by rw [hE]; decide)]
      rw [fault_none hi hz] at C0
      have C := Lib.hid C0
      have HE := Lib.hid hE
      have HDD := Lib.hid hD
      clear hi hz
      clear C0 hE hD h
      go_enter Try.func30, Try.ntmps30
      go_wp2_with (fail)
      refine C.out.mono ?_
      rintro e w' ⟨rfl, rfl⟩
      go_wp2_with (fail)
      go_ret
      exact keeps H.out HE.out.symm HDD.out
    · have hE : d.fault n = 0 := fault_ok hi hz
      have hD : d.clr n = d.wiped := by unfold Dk.clr; rw [if_pos hE]
      rw [hE] at C0
      have C := Lib.hid C0
      have HE := Lib.hid hE
      have HDD := Lib.hid hD
      clear C0 hE hD h hi hz
      go_enter Try.func30, Try.ntmps30
      go_wp2_with (fail)
      refine C.out.mono ?_
      rintro e w' ⟨rfl, rfl⟩
      go_wp2_with (fail)
      refine (wipe_any g d _ H.out).mono ?_
      rintro e w1 ⟨rfl, hd, ho⟩
      have HD1 := Lib.hid hd
      have HO1 := Lib.hid ho
      clear hd ho
      go_wp2_with (fail)
      go_ret
      exact ⟨by rw [HE.out]; rfl, by rw [HDD.out]; exact HD1.out, HO1.out⟩
  · have hE : d.fault n = 2 := fault_out hi
    have hD : d.clr n = d := by unfold Dk.clr; rw [if_neg (by rw [hE]; decide)]
    rw [fault_out hi] at C0
    have C := Lib.hid C0
    have HE := Lib.hid hE
    have HDD := Lib.hid hD
    clear hi
    clear C0 hE hD h
    go_enter Try.func30, Try.ntmps30
    go_wp2_with (fail)
    refine C.out.mono ?_
    rintro e w' ⟨rfl, rfl⟩
    go_wp2_with (fail)
    go_ret
    exact keeps H.out HE.out.symm HDD.out
theorem May_any (g : Nat) (d : Dk) (n : Int) (write : Bool) (w : World) (h : HasD w g d) :
    Calls Try.prog 26 #[.pointer (some ⟨g, 0, none⟩), .int .i64 n, .bool write] w fun e w' => e = .returned (.bool (d.may n write)) ∧ w' = w := by
  have C0 := in_any g n w
  by_cases hi : isIn n
  · rw [decide_eq_true hi] at C0
    have C := Lib.hid C0
    obtain ⟨m, rfl⟩ := Int.eq_ofNat_of_zero_le hi.1
    have hm : m < 16 := by have := hi.2; omega
    have c1 := h.keyCell hm
    have c2 := h.holderCell
    have c3 := h.kindCell
    have hM : d.may (m : Int) write = (if d.kind = 0 ∨ d.holder = (m : Int) then true else if d.kind = 1 then !write else if d.kind = 3 then (!write || decide (d.key m ≠ 0)) else if d.kind = 4 then decide (d.key m ≠ 0) else false) := by
      unfold Dk.may; rw [if_pos hi]; rfl
    have hi2 := Lib.hid hi
    clear C0 h hi
    generalize d.may (m : Int) write = r at *
    generalize d.kind = kd at *
    generalize d.holder = hd at *
    generalize d.key m = km at *
    by_cases k0 : kd = 0
    · have t0 := bT k0
      have hr : r = true := by rw [hM, if_pos (.inl k0)]
      have HR := Lib.hid hr
      clear hM hr k0
      go_enter Try.func26, Try.ntmps26
      go_wp2_with (fail)
      refine C.out.mono ?_
      rintro e w' ⟨rfl, rfl⟩
      go_wp2_with (fail)
      go_ret
      exact ⟨by rw [HR.out]; rfl, rfl⟩
    by_cases hh : hd = (m : Int)
    · have t0 := bF k0
      have t1 := bT hh
      have hr : r = true := by rw [hM, if_pos (.inr hh)]
      have HR := Lib.hid hr
      clear hM hr k0 hh
      go_enter Try.func26, Try.ntmps26
      go_wp2_with (fail)
      refine C.out.mono ?_
      rintro e w' ⟨rfl, rfl⟩
      go_wp2_with (fail)
      go_ret
      exact ⟨by rw [HR.out]; rfl, rfl⟩
    have t0 := bF k0
    have t1 := bF hh
    rw [if_neg (fun h => by rcases h with h | h; exact k0 h; exact hh h)] at hM
    clear k0 hh
    by_cases k1 : kd = 1
    · have u1 := bT k1
      have hr : r = !write := by rw [hM, if_pos k1]
      have HR := Lib.hid hr
      clear hM hr k1
      cases write
      all_goals
        go_enter Try.func26, Try.ntmps26
        go_wp2_with (fail)
        refine C.out.mono ?_
        rintro e w' ⟨rfl, rfl⟩
        go_wp2_with (fail)
        go_ret
        exact ⟨by rw [HR.out]; rfl, rfl⟩
    have u1 := bF k1
    rw [if_neg k1] at hM
    clear k1
    by_cases k3 : kd = 3
    · have u3 := bT k3
      by_cases kz : km = 0
      · have z1 := nF kz
        have hr : r = !write := by rw [hM, if_pos k3, decide_eq_false (by simpa using kz), Bool.or_false]
        have HR := Lib.hid hr
        clear hM hr k3 kz
        cases write
        all_goals
          go_enter Try.func26, Try.ntmps26
          go_wp2_with (fail)
          refine C.out.mono ?_
          rintro e w' ⟨rfl, rfl⟩
          go_wp2_with (fail)
          go_ret
          exact ⟨by rw [HR.out]; rfl, rfl⟩
      · have z1 := nT kz
        have hr : r = true := by rw [hM, if_pos k3, decide_eq_true kz, Bool.or_true]
        have HR := Lib.hid hr
        clear hM hr k3 kz
        cases write
        all_goals
          go_enter Try.func26, Try.ntmps26
          go_wp2_with (fail)
          refine C.out.mono ?_
          rintro e w' ⟨rfl, rfl⟩
          go_wp2_with (fail)
          go_ret
          exact ⟨by rw [HR.out]; rfl, rfl⟩
    have u3 := bF k3
    rw [if_neg k3] at hM
    clear k3
    by_cases k4 : kd = 4
    · have u4 := bT k4
      by_cases kz : km = 0
      · have z1 := nF kz
        have hr : r = false := by rw [hM, if_pos k4, decide_eq_false (by simpa using kz)]
        have HR := Lib.hid hr
        clear hM hr k4 kz
        go_enter Try.func26, Try.ntmps26
        go_wp2_with (fail)
        refine C.out.mono ?_
        rintro e w' ⟨rfl, rfl⟩
        go_wp2_with (fail)
        go_ret
        exact ⟨by rw [HR.out]; rfl, rfl⟩
      · have z1 := nT kz
        have hr : r = true := by rw [hM, if_pos k4, decide_eq_true kz]
        have HR := Lib.hid hr
        clear hM hr k4 kz
        go_enter Try.func26, Try.ntmps26
        go_wp2_with (fail)
        refine C.out.mono ?_
        rintro e w' ⟨rfl, rfl⟩
        go_wp2_with (fail)
        go_ret
        exact ⟨by rw [HR.out]; rfl, rfl⟩
    have u4 := bF k4
    have hr : r = false := by rw [hM, if_neg k4]
    have HR := Lib.hid hr
    clear hM hr k4
    go_enter Try.func26, Try.ntmps26
    go_wp2_with (fail)
    refine C.out.mono ?_
    rintro e w' ⟨rfl, rfl⟩
    go_wp2_with (fail)
    go_ret
    exact ⟨by rw [HR.out]; rfl, rfl⟩
  · rw [decide_eq_false hi] at C0
    have C := Lib.hid C0
    have hr : d.may n write = false := by unfold Dk.may; rw [if_neg hi]
    have HR := Lib.hid hr
    clear C0 hr h hi
    go_enter Try.func26, Try.ntmps26
    go_wp2_with (fail)
    refine C.out.mono ?_
    rintro e w' ⟨rfl, rfl⟩
    go_wp2_with (fail)
    go_ret
    exact ⟨by rw [HR.out]; rfl, rfl⟩
/-- Key of any initiator. -/
def Dk.keyOf (d : Dk) (n : Int) : Int := if isIn n then d.key n.toNat else 0
theorem below_drewN {B : Nat} {a w : World} (h : Below B a w) (n : Nat) : Below B a (w.drewN n) := ⟨h.os, h.tape, h.output, h.size, h.block⟩
theorem Lose_any (g : Nat) (d : Dk) (w : World) (h : HasD w g d) : Calls Try.prog 22 #[.pointer (some ⟨g, 0, none⟩)] w fun e w' => e = .returned (.tuple #[]) ∧ HasD w' g d.lose ∧ Only [g] w w' := by
  have H := Lib.hid h
  have c4 := h.keepCell
  cases hk : d.keep with
  | true =>
    rw [hk] at c4
    have hl : d.lose = d := by unfold Dk.lose; rw [if_pos hk]
    have HL := Lib.hid hl
    clear hl hk h
    go_enter Try.func22, Try.ntmps22
    go_wp2_with (fail)
    go_end0
    exact ⟨rfl, by rw [HL.out]; exact H.out, Only.refl _ _⟩
  | false =>
    rw [hk] at c4
    have hl : d.lose = d.wiped := by unfold Dk.lose; rw [if_neg (by rw [hk]; decide)]
    have HL := Lib.hid hl
    clear hl hk h
    go_enter Try.func22, Try.ntmps22
    go_wp2_with (fail)
    refine (wipe_any g d _ H.out).mono ?_
    rintro e w1 ⟨rfl, hd, ho⟩
    have HD1 := Lib.hid hd
    have HO1 := Lib.hid ho
    clear hd ho
    go_wp2_with (fail)
    go_end0
    exact ⟨rfl, by rw [HL.out]; exact HD1.out, HO1.out⟩
end Go.Proofs.Ytjpdjhmajjbgmaa.Res
