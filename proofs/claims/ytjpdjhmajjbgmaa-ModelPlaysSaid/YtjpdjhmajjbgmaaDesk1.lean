/- The walks of reserve's New, in, fault and wipe. -/
import Derived.Test.YtjpdjhmajjbgmaaDesk
import Derived.Deep.QuietTactic
import Derived.BigQuiet
import Derived.RegionTactic
namespace Go.Proofs.Ytjpdjhmajjbgmaa.Res
open Go.RowKit
set_option linter.unusedVariables false
theorem new_any (w : World) : Calls Try.prog 18 #[] w fun e w' => e = .returned (.pointer (some ⟨w.heap.size, 0, none⟩)) ∧ w' = w.alloc (.cells Dk.new.cells 68) := by
  go_enter Try.func18, Try.ntmps18
  go_wp2
  go_ret
  exact ⟨rfl, rfl⟩
theorem hasD_new (w : World) : HasD (w.alloc (.cells Dk.new.cells 68)) w.heap.size Dk.new := ⟨heap_alloc_new w _, by simp [Dk.new]⟩
theorem in_any (g : Nat) (n : Int) (w : World) : Calls Try.prog 40 #[.pointer (some ⟨g, 0, none⟩), .int .i64 n] w fun e w' => e = .returned (.bool (decide (isIn n))) ∧ w' = w := by
  by_cases h0 : 0 ≤ n
  · by_cases h1 : n < 16
    · have hr : decide (isIn n) = true := decide_eq_true ⟨h0, h1⟩
      have HR := Lib.hid hr
      clear hr
      go_enter Try.func40, Try.ntmps40
      go_wp2
      go_ret
      exact ⟨by rw [HR.out]; rfl, rfl⟩
    · have hr : decide (isIn n) = false := decide_eq_false (fun h => h1 h.2)
      have HR := Lib.hid hr
      clear hr
      go_enter Try.func40, Try.ntmps40
      go_wp2
      go_ret
      exact ⟨by rw [HR.out]; rfl, rfl⟩
  · have hr : decide (isIn n) = false := decide_eq_false (fun h => h0 h.1)
    have HR := Lib.hid hr
    clear hr
    go_enter Try.func40, Try.ntmps40
    go_wp2
    go_ret
    exact ⟨by rw [HR.out]; rfl, rfl⟩
theorem in_nil (n : Int) (w : World) : Calls Try.prog 40 #[.pointer none, .int .i64 n] w fun e w' => e = .returned (.bool false) ∧ w' = w := by
  go_enter Try.func40, Try.ntmps40
  go_wp2
  go_ret
  exact ⟨rfl, rfl⟩
theorem fault_any (g : Nat) (d : Dk) (n : Int) (w : World) (h : HasD w g d) : Calls Try.prog 41 #[.pointer (some ⟨g, 0, none⟩), .int .i64 n] w fun e w' => e = .returned (.int .i64 (d.fault n)) ∧ w' = w := by
  have C0 := in_any g n w
  by_cases hi : isIn n
  · rw [decide_eq_true hi] at C0
    have C := Lib.hid C0
    obtain ⟨k, rfl⟩ := Int.eq_ofNat_of_zero_le hi.1
    have hk : k < 16 := by have := hi.2; omega
    have hc := h.keyCell hk
    by_cases hz : d.key k = 0
    · have hr : d.fault (k : Int) = 10 := by unfold Dk.fault; rw [if_pos hi, Int.toNat_natCast, if_pos hz]
      rw [hz] at hc
      have HR := Lib.hid hr
      clear hr hi h hz C0
      go_enter Try.func41, Try.ntmps41
      go_wp2_with (fail)
      refine C.out.mono ?_
      rintro e w' ⟨rfl, rfl⟩
      go_wp2_with (fail)
      go_ret
      exact ⟨by rw [HR.out]; rfl, rfl⟩
    · have hr : d.fault (k : Int) = 0 := by unfold Dk.fault; rw [if_pos hi, Int.toNat_natCast, if_neg hz]
      have hzb : (d.key k == 0) = false := by rw [beq_eq_false_iff_ne]; exact hz
      generalize d.key k = q at *
      have HR := Lib.hid hr
      clear hr hi h hz C0
      go_enter Try.func41, Try.ntmps41
      go_wp2_with (fail)
      refine C.out.mono ?_
      rintro e w' ⟨rfl, rfl⟩
      go_wp2_with (fail)
      go_ret
      exact ⟨by rw [HR.out]; rfl, rfl⟩
  · rw [decide_eq_false hi] at C0
    have C := Lib.hid C0
    have hr : d.fault n = 2 := by unfold Dk.fault; rw [if_neg hi]
    have HR := Lib.hid hr
    clear hr hi h C0
    go_enter Try.func41, Try.ntmps41
    go_wp2_with (fail)
    refine C.out.mono ?_
    rintro e w' ⟨rfl, rfl⟩
    go_wp2_with (fail)
    go_ret
    exact ⟨by rw [HR.out]; rfl, rfl⟩
theorem wiped_keys : ∀ (l : List Int), l.length = 16 → ((((((((((((((((l.set 0 0).set 1 0).set 2 0).set 3 0).set 4 0).set 5 0).set 6 0).set 7 0).set 8 0).set 9 0).set 10 0).set 11 0).set 12 0).set 13 0).set 14 0).set 15 0) = List.replicate 16 0
  | [a0, a1, a2, a3, a4, a5, a6, a7, a8, a9, a10, a11, a12, a13, a14, a15], _ => rfl
theorem wipe_any (g : Nat) (d : Dk) (w : World) (h : HasD w g d) : Calls Try.prog 32 #[.pointer (some ⟨g, 0, none⟩)] w fun e w' => e = .returned (.tuple #[]) ∧ HasD w' g d.wiped ∧ Only [g] w w' := by
  have H := Lib.hid h
  have c0 := h.keyCell (i := 0) (by omega)
  have f0 := h.frozen 0
  have c1 := h.keyCell (i := 1) (by omega)
  have f1 := h.frozen 1
  have c2 := h.keyCell (i := 2) (by omega)
  have f2 := h.frozen 2
  have c3 := h.keyCell (i := 3) (by omega)
  have f3 := h.frozen 3
  have c4 := h.keyCell (i := 4) (by omega)
  have f4 := h.frozen 4
  have c5 := h.keyCell (i := 5) (by omega)
  have f5 := h.frozen 5
  have c6 := h.keyCell (i := 6) (by omega)
  have f6 := h.frozen 6
  have c7 := h.keyCell (i := 7) (by omega)
  have f7 := h.frozen 7
  have c8 := h.keyCell (i := 8) (by omega)
  have f8 := h.frozen 8
  have c9 := h.keyCell (i := 9) (by omega)
  have f9 := h.frozen 9
  have c10 := h.keyCell (i := 10) (by omega)
  have f10 := h.frozen 10
  have c11 := h.keyCell (i := 11) (by omega)
  have f11 := h.frozen 11
  have c12 := h.keyCell (i := 12) (by omega)
  have f12 := h.frozen 12
  have c13 := h.keyCell (i := 13) (by omega)
  have f13 := h.frozen 13
  have c14 := h.keyCell (i := 14) (by omega)
  have f14 := h.frozen 14
  have c15 := h.keyCell (i := 15) (by omega)
  have f15 := h.frozen 15
  have c16 := h.holderCell
  have f16 := h.frozen 16
  have c17 := h.kindCell
  have f17 := h.frozen 17
  clear h
  go_enter Try.func32, Try.ntmps32
  go_wp2
  go_end0
  refine ⟨rfl, ?_, (((((((((((((((((((Only.refl [g] w).set_ (p := ⟨g, 0, none⟩) (by simp) _).set_ (p := ⟨g, 1, none⟩) (by simp) _).set_ (p := ⟨g, 2, none⟩) (by simp) _).set_ (p := ⟨g, 3, none⟩) (by simp) _).set_ (p := ⟨g, 4, none⟩) (by simp) _).set_ (p := ⟨g, 5, none⟩) (by simp) _).set_ (p := ⟨g, 6, none⟩) (by simp) _).set_ (p := ⟨g, 7, none⟩) (by simp) _).set_ (p := ⟨g, 8, none⟩) (by simp) _).set_ (p := ⟨g, 9, none⟩) (by simp) _).set_ (p := ⟨g, 10, none⟩) (by simp) _).set_ (p := ⟨g, 11, none⟩) (by simp) _).set_ (p := ⟨g, 12, none⟩) (by simp) _).set_ (p := ⟨g, 13, none⟩) (by simp) _).set_ (p := ⟨g, 14, none⟩) (by simp) _).set_ (p := ⟨g, 15, none⟩) (by simp) _).set_ (p := ⟨g, 17, none⟩) (by simp) _).set_ (p := ⟨g, 16, none⟩) (by simp) _)⟩
  have h := H.out
  have hd : d.wiped = ⟨((((((((((((((((d.keys.set 0 0).set 1 0).set 2 0).set 3 0).set 4 0).set 5 0).set 6 0).set 7 0).set 8 0).set 9 0).set 10 0).set 11 0).set 12 0).set 13 0).set 14 0).set 15 0), 0, 0, d.keep⟩ := by unfold Dk.wiped; rw [wiped_keys d.keys h.len]
  rw [hd]
  exact ((((((((((((((((((h.setKey (i := 0) (by omega) 0).setKey (i := 1) (by omega) 0).setKey (i := 2) (by omega) 0).setKey (i := 3) (by omega) 0).setKey (i := 4) (by omega) 0).setKey (i := 5) (by omega) 0).setKey (i := 6) (by omega) 0).setKey (i := 7) (by omega) 0).setKey (i := 8) (by omega) 0).setKey (i := 9) (by omega) 0).setKey (i := 10) (by omega) 0).setKey (i := 11) (by omega) 0).setKey (i := 12) (by omega) 0).setKey (i := 13) (by omega) 0).setKey (i := 14) (by omega) 0).setKey (i := 15) (by omega) 0).setKind 0).setHolder 0)
end Go.Proofs.Ytjpdjhmajjbgmaa.Res
