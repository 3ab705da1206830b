/- Check, the program's and the document's: the same plain answer. -/
import Derived.Test.YtjpdjhmajjbgmaaCmd
namespace Go.Proofs.Ytjpdjhmajjbgmaa.Wd
open Go.RowKit
set_option linter.unusedVariables false
set_option linter.unusedSimpArgs false
/-- Does a run of n sectors from lba on lie within so many? -/
def inRun (n lba cap : Int) : Prop := 1 ≤ n ∧ n ≤ 8 ∧ 0 ≤ lba ∧ n ≤ cap ∧ lba ≤ cap - n
instance (n lba cap : Int) : Decidable (inRun n lba cap) := by unfold inRun; infer_instance
def runE (n lba cap : Int) : Int := if inRun n lba cap then 0 else 2
def Cmd.chk (c : Cmd) (cap : Int) : Int :=
  if c.kind = 1 ∨ c.kind = 4 ∨ c.kind = 7 ∨ c.kind = 9 ∨ c.kind = 10 then 0
  else if c.kind = 8 then (if 1 ≤ c.res ∧ c.res ≤ 4 then 0 else 2)
  else if c.kind = 11 then (if c.key = 0 then 2 else 0)
  else if c.kind = 2 ∨ c.kind = 6 then runE c.count c.lba cap
  else if c.kind = 3 then runE c.n c.lba cap
  else if c.kind = 5 then (if c.n = 2 then runE 1 c.lba cap else 2)
  else 2
theorem wf_i64 {x : Int} (h : (Lit.int .i64 x).wf = true) : -9223372036854775808 ≤ x ∧ x ≤ 9223372036854775807 := by
  simp [Lit.wf] at h
  have e0 : IntKind.i64.min = -9223372036854775808 := by decide
  have e1 : IntKind.i64.max = 9223372036854775807 := by decide
  omega
theorem wrap_i64 {x : Int} (h1 : -9223372036854775808 ≤ x) (h2 : x ≤ 9223372036854775807) : IntKind.i64.wrap x = x := by
  simp [IntKind.wrap, IntKind.bits, IntKind.signed]; omega
set_option maxRecDepth 100000 in
set_option maxHeartbeats 4000000 in
theorem check_any (c : Cmd) (dv : Value) (cap : Int) (w : World) (hs : Secs w dv c) (hc : (Lit.int .i64 cap).wf = true) :
    Calls Try.prog 25 #[c.val dv, .int .i64 cap] w fun e w' => e = .returned (.int .i64 (c.chk cap)) ∧ Below w.heap.size w w' := by
  obtain ⟨A, cp, rfl, hn1, hn2⟩ : ∃ A cp, dv = .slice A c.n cp ∧ c.n ≤ cp ∧ cp ≤ maxLen := by
    obtain ⟨_, A, cp, h1, h2, h3, _⟩ := hs; exact ⟨A, cp, h1, h2, h3⟩
  obtain ⟨kind, lba, count, n, bs, key, res, keep⟩ := c
  have hc1 : -9223372036854775808 ≤ cap ∧ cap ≤ 9223372036854775807 := wf_i64 hc
  simp only at hn1
  clear hs hc
  unfold Cmd.val
  by_cases k1 : kind = 1
  · subst k1
    go_enter Try.func25, Try.ntmps25
    go_wp2_with (fail)
    go_ret
    exact ⟨rfl, balloc _ _⟩
  by_cases k4 : kind = 4
  · subst k4
    go_enter Try.func25, Try.ntmps25
    go_wp2_with (fail)
    go_ret
    exact ⟨rfl, balloc _ _⟩
  by_cases k7 : kind = 7
  · subst k7
    go_enter Try.func25, Try.ntmps25
    go_wp2_with (fail)
    go_ret
    exact ⟨rfl, balloc _ _⟩
  by_cases k9 : kind = 9
  · subst k9
    go_enter Try.func25, Try.ntmps25
    go_wp2_with (fail)
    go_ret
    exact ⟨rfl, balloc _ _⟩
  by_cases k10 : kind = 10
  · subst k10
    go_enter Try.func25, Try.ntmps25
    go_wp2_with (fail)
    go_ret
    exact ⟨rfl, balloc _ _⟩
  by_cases k8 : kind = 8
  · subst k8
    by_cases r0 : res < 1
    · have hv : (Cmd.mk 8 lba count n bs key res keep).chk cap = 2 := (if_neg (fun c => by omega) : (if (1 : Int) ≤ res ∧ res ≤ 4 then (0 : Int) else 2) = 2)
      have HV := Lib.hid hv
      have q0 : decide (res < 1) = true := decide_eq_true r0
      have p0 : decide (1 ≤ res) = false := decide_eq_false (by omega)
      clear hv r0
      go_enter Try.func25, Try.ntmps25
      go_wp2_with (fail)
      go_ret
      exact ⟨by first | (rw [HV.out]; done) | (rw [HV.out]; rfl), balloc _ _⟩
    by_cases r1 : 4 < res
    · have hv : (Cmd.mk 8 lba count n bs key res keep).chk cap = 2 := (if_neg (fun c => by omega) : (if (1 : Int) ≤ res ∧ res ≤ 4 then (0 : Int) else 2) = 2)
      have HV := Lib.hid hv
      have q0 : decide (res < 1) = false := decide_eq_false r0
      have q1 : decide (4 < res) = true := decide_eq_true r1
      have p0 : decide (1 ≤ res) = true := decide_eq_true (by omega)
      have p1 : decide (res ≤ 4) = false := decide_eq_false (by omega)
      clear hv r0 r1
      go_enter Try.func25, Try.ntmps25
      go_wp2_with (fail)
      go_ret
      exact ⟨by first | (rw [HV.out]; done) | (rw [HV.out]; rfl), balloc _ _⟩
    have hv : (Cmd.mk 8 lba count n bs key res keep).chk cap = 0 := (if_pos ⟨by omega, by omega⟩ : (if (1 : Int) ≤ res ∧ res ≤ 4 then (0 : Int) else 2) = 0)
    have HV := Lib.hid hv
    have q0 : decide (res < 1) = false := decide_eq_false r0
    have q1 : decide (4 < res) = false := decide_eq_false r1
    have p0 : decide (1 ≤ res) = true := decide_eq_true (by omega)
    have p1 : decide (res ≤ 4) = true := decide_eq_true (by omega)
    clear hv r0 r1
    go_enter Try.func25, Try.ntmps25
    go_wp2_with (fail)
    go_ret
    exact ⟨by first | (rw [HV.out]; done) | (rw [HV.out]; rfl), balloc _ _⟩
  by_cases k11 : kind = 11
  · subst k11
    by_cases r0 : key = 0
    · have hv : (Cmd.mk 11 lba count n bs key res keep).chk cap = 2 := (if_pos r0 : (if key = 0 then (2 : Int) else 0) = 2)
      have HV := Lib.hid hv
      have q0 := bT r0
      have q1 : (key != 0) = false := by rw [bne, q0]; rfl
      clear hv r0
      go_enter Try.func25, Try.ntmps25
      go_wp2_with (fail)
      go_ret
      exact ⟨by first | (rw [HV.out]; done) | (rw [HV.out]; rfl), balloc _ _⟩
    · have hv : (Cmd.mk 11 lba count n bs key res keep).chk cap = 0 := (if_neg r0 : (if key = 0 then (2 : Int) else 0) = 0)
      have HV := Lib.hid hv
      have q0 := bF r0
      have q1 : (key != 0) = true := by rw [bne, q0]; rfl
      clear hv r0
      go_enter Try.func25, Try.ntmps25
      go_wp2_with (fail)
      go_ret
      exact ⟨by first | (rw [HV.out]; done) | (rw [HV.out]; rfl), balloc _ _⟩
  by_cases k2 : kind = 2
  · subst k2
    by_cases r0 : count < 1
    · have hv : runE count lba cap = 2 := if_neg (fun c => by obtain ⟨x1, x2, x3, x4, x5⟩ := c; omega)
      have HV := Lib.hid hv
      have q0 : decide (count < 1) = true := decide_eq_true r0
      clear hv r0
      go_enter Try.func25, Try.ntmps25
      go_wp2_with (fail)
      go_ret
      exact ⟨(congrArg (fun x => Ending.returned (Value.int IntKind.i64 x)) HV.out.symm), balloc _ _⟩
    by_cases r1 : 8 < count
    · have hv : runE count lba cap = 2 := if_neg (fun c => by obtain ⟨x1, x2, x3, x4, x5⟩ := c; omega)
      have HV := Lib.hid hv
      have q0 : decide (count < 1) = false := decide_eq_false r0
      have q1 : decide (8 < count) = true := decide_eq_true r1
      clear hv r0 r1
      go_enter Try.func25, Try.ntmps25
      go_wp2_with (fail)
      go_ret
      exact ⟨(congrArg (fun x => Ending.returned (Value.int IntKind.i64 x)) HV.out.symm), balloc _ _⟩
    by_cases r2 : lba < 0
    · have hv : runE count lba cap = 2 := if_neg (fun c => by obtain ⟨x1, x2, x3, x4, x5⟩ := c; omega)
      have HV := Lib.hid hv
      have q0 : decide (count < 1) = false := decide_eq_false r0
      have q1 : decide (8 < count) = false := decide_eq_false r1
      have q2 : decide (lba < 0) = true := decide_eq_true r2
      clear hv r0 r1 r2
      go_enter Try.func25, Try.ntmps25
      go_wp2_with (fail)
      go_ret
      exact ⟨(congrArg (fun x => Ending.returned (Value.int IntKind.i64 x)) HV.out.symm), balloc _ _⟩
    by_cases r3 : cap < count
    · have hv : runE count lba cap = 2 := if_neg (fun c => by obtain ⟨x1, x2, x3, x4, x5⟩ := c; omega)
      have HV := Lib.hid hv
      have q0 : decide (count < 1) = false := decide_eq_false r0
      have q1 : decide (8 < count) = false := decide_eq_false r1
      have q2 : decide (lba < 0) = false := decide_eq_false r2
      have q3 : decide (cap < count) = true := decide_eq_true r3
      clear hv r0 r1 r2 r3
      go_enter Try.func25, Try.ntmps25
      go_wp2_with (fail)
      go_ret
      exact ⟨(congrArg (fun x => Ending.returned (Value.int IntKind.i64 x)) HV.out.symm), balloc _ _⟩
    by_cases r4 : cap - count < lba
    · have hv : runE count lba cap = 2 := if_neg (fun c => by obtain ⟨x1, x2, x3, x4, x5⟩ := c; omega)
      have HV := Lib.hid hv
      have q0 : decide (count < 1) = false := decide_eq_false r0
      have q1 : decide (8 < count) = false := decide_eq_false r1
      have q2 : decide (lba < 0) = false := decide_eq_false r2
      have q3 : decide (cap < count) = false := decide_eq_false r3
      have q4 : decide (cap - count < lba) = true := decide_eq_true r4
      have hw : IntKind.i64.wrap (cap - count) = cap - count := wrap_i64 (by omega) (by omega)
      have hw2 : wrap64 (cap - count) = cap - count := by unfold wrap64; omega
      clear hv r0 r1 r2 r3 r4
      go_enter Try.func25, Try.ntmps25
      go_wp2_with (fail)
      go_ret
      exact ⟨(congrArg (fun x => Ending.returned (Value.int IntKind.i64 x)) HV.out.symm), balloc _ _⟩
    have hv : runE count lba cap = 0 := if_pos ⟨by omega, by omega, by omega, by omega, by omega⟩
    have HV := Lib.hid hv
    have q0 : decide (count < 1) = false := decide_eq_false r0
    have q1 : decide (8 < count) = false := decide_eq_false r1
    have q2 : decide (lba < 0) = false := decide_eq_false r2
    have q3 : decide (cap < count) = false := decide_eq_false r3
    have q4 : decide (cap - count < lba) = false := decide_eq_false r4
    have hw : IntKind.i64.wrap (cap - count) = cap - count := wrap_i64 (by omega) (by omega)
    clear hv r0 r1 r2 r3 r4
    go_enter Try.func25, Try.ntmps25
    go_wp2_with (fail)
    go_ret
    exact ⟨(congrArg (fun x => Ending.returned (Value.int IntKind.i64 x)) HV.out.symm), balloc _ _⟩
  by_cases k6 : kind = 6
  · subst k6
    by_cases r0 : count < 1
    · have hv : runE count lba cap = 2 := if_neg (fun c => by obtain ⟨x1, x2, x3, x4, x5⟩ := c; omega)
      have HV := Lib.hid hv
      have q0 : decide (count < 1) = true := decide_eq_true r0
      clear hv r0
      go_enter Try.func25, Try.ntmps25
      go_wp2_with (fail)
      go_ret
      exact ⟨(congrArg (fun x => Ending.returned (Value.int IntKind.i64 x)) HV.out.symm), balloc _ _⟩
    by_cases r1 : 8 < count
    · have hv : runE count lba cap = 2 := if_neg (fun c => by obtain ⟨x1, x2, x3, x4, x5⟩ := c; omega)
      have HV := Lib.hid hv
      have q0 : decide (count < 1) = false := decide_eq_false r0
      have q1 : decide (8 < count) = true := decide_eq_true r1
      clear hv r0 r1
      go_enter Try.func25, Try.ntmps25
      go_wp2_with (fail)
      go_ret
      exact ⟨(congrArg (fun x => Ending.returned (Value.int IntKind.i64 x)) HV.out.symm), balloc _ _⟩
    by_cases r2 : lba < 0
    · have hv : runE count lba cap = 2 := if_neg (fun c => by obtain ⟨x1, x2, x3, x4, x5⟩ := c; omega)
      have HV := Lib.hid hv
      have q0 : decide (count < 1) = false := decide_eq_false r0
      have q1 : decide (8 < count) = false := decide_eq_false r1
      have q2 : decide (lba < 0) = true := decide_eq_true r2
      clear hv r0 r1 r2
      go_enter Try.func25, Try.ntmps25
      go_wp2_with (fail)
      go_ret
      exact ⟨(congrArg (fun x => Ending.returned (Value.int IntKind.i64 x)) HV.out.symm), balloc _ _⟩
    by_cases r3 : cap < count
    · have hv : runE count lba cap = 2 := if_neg (fun c => by obtain ⟨x1, x2, x3, x4, x5⟩ := c; omega)
      have HV := Lib.hid hv
      have q0 : decide (count < 1) = false := decide_eq_false r0
      have q1 : decide (8 < count) = false := decide_eq_false r1
      have q2 : decide (lba < 0) = false := decide_eq_false r2
      have q3 : decide (cap < count) = true := decide_eq_true r3
      clear hv r0 r1 r2 r3
      go_enter Try.func25, Try.ntmps25
      go_wp2_with (fail)
      go_ret
      exact ⟨(congrArg (fun x => Ending.returned (Value.int IntKind.i64 x)) HV.out.symm), balloc _ _⟩
    by_cases r4 : cap - count < lba
    · have hv : runE count lba cap = 2 := if_neg (fun c => by obtain ⟨x1, x2, x3, x4, x5⟩ := c; omega)
      have HV := Lib.hid hv
      have q0 : decide (count < 1) = false := decide_eq_false r0
      have q1 : decide (8 < count) = false := decide_eq_false r1
      have q2 : decide (lba < 0) = false := decide_eq_false r2
      have q3 : decide (cap < count) = false := decide_eq_false r3
      have q4 : decide (cap - count < lba) = true := decide_eq_true r4
      have hw : IntKind.i64.wrap (cap - count) = cap - count := wrap_i64 (by omega) (by omega)
      have hw2 : wrap64 (cap - count) = cap - count := by unfold wrap64; omega
      clear hv r0 r1 r2 r3 r4
      go_enter Try.func25, Try.ntmps25
      go_wp2_with (fail)
      go_ret
      exact ⟨(congrArg (fun x => Ending.returned (Value.int IntKind.i64 x)) HV.out.symm), balloc _ _⟩
    have hv : runE count lba cap = 0 := if_pos ⟨by omega, by omega, by omega, by omega, by omega⟩
    have HV := Lib.hid hv
    have q0 : decide (count < 1) = false := decide_eq_false r0
    have q1 : decide (8 < count) = false := decide_eq_false r1
    have q2 : decide (lba < 0) = false := decide_eq_false r2
    have q3 : decide (cap < count) = false := decide_eq_false r3
    have q4 : decide (cap - count < lba) = false := decide_eq_false r4
    have hw : IntKind.i64.wrap (cap - count) = cap - count := wrap_i64 (by omega) (by omega)
    clear hv r0 r1 r2 r3 r4
    go_enter Try.func25, Try.ntmps25
    go_wp2_with (fail)
    go_ret
    exact ⟨(congrArg (fun x => Ending.returned (Value.int IntKind.i64 x)) HV.out.symm), balloc _ _⟩
  by_cases k3 : kind = 3
  · subst k3
    by_cases r0 : (n : Int) < 1
    · have hv : runE (n : Int) lba cap = 2 := if_neg (fun c => by obtain ⟨x1, x2, x3, x4, x5⟩ := c; omega)
      have HV := Lib.hid hv
      have q0 : decide ((n : Int) < 1) = true := decide_eq_true r0
      clear hv r0
      go_enter Try.func25, Try.ntmps25
      go_wp2_with (fail)
      go_ret
      exact ⟨(congrArg (fun x => Ending.returned (Value.int IntKind.i64 x)) HV.out.symm), balloc _ _⟩
    by_cases r1 : 8 < (n : Int)
    · have hv : runE (n : Int) lba cap = 2 := if_neg (fun c => by obtain ⟨x1, x2, x3, x4, x5⟩ := c; omega)
      have HV := Lib.hid hv
      have q0 : decide ((n : Int) < 1) = false := decide_eq_false r0
      have q1 : decide (8 < (n : Int)) = true := decide_eq_true r1
      clear hv r0 r1
      go_enter Try.func25, Try.ntmps25
      go_wp2_with (fail)
      go_ret
      exact ⟨(congrArg (fun x => Ending.returned (Value.int IntKind.i64 x)) HV.out.symm), balloc _ _⟩
    by_cases r2 : lba < 0
    · have hv : runE (n : Int) lba cap = 2 := if_neg (fun c => by obtain ⟨x1, x2, x3, x4, x5⟩ := c; omega)
      have HV := Lib.hid hv
      have q0 : decide ((n : Int) < 1) = false := decide_eq_false r0
      have q1 : decide (8 < (n : Int)) = false := decide_eq_false r1
      have q2 : decide (lba < 0) = true := decide_eq_true r2
      clear hv r0 r1 r2
      go_enter Try.func25, Try.ntmps25
      go_wp2_with (fail)
      go_ret
      exact ⟨(congrArg (fun x => Ending.returned (Value.int IntKind.i64 x)) HV.out.symm), balloc _ _⟩
    by_cases r3 : cap < (n : Int)
    · have hv : runE (n : Int) lba cap = 2 := if_neg (fun c => by obtain ⟨x1, x2, x3, x4, x5⟩ := c; omega)
      have HV := Lib.hid hv
      have q0 : decide ((n : Int) < 1) = false := decide_eq_false r0
      have q1 : decide (8 < (n : Int)) = false := decide_eq_false r1
      have q2 : decide (lba < 0) = false := decide_eq_false r2
      have q3 : decide (cap < (n : Int)) = true := decide_eq_true r3
      clear hv r0 r1 r2 r3
      go_enter Try.func25, Try.ntmps25
      go_wp2_with (fail)
      go_ret
      exact ⟨(congrArg (fun x => Ending.returned (Value.int IntKind.i64 x)) HV.out.symm), balloc _ _⟩
    by_cases r4 : cap - (n : Int) < lba
    · have hv : runE (n : Int) lba cap = 2 := if_neg (fun c => by obtain ⟨x1, x2, x3, x4, x5⟩ := c; omega)
      have HV := Lib.hid hv
      have q0 : decide ((n : Int) < 1) = false := decide_eq_false r0
      have q1 : decide (8 < (n : Int)) = false := decide_eq_false r1
      have q2 : decide (lba < 0) = false := decide_eq_false r2
      have q3 : decide (cap < (n : Int)) = false := decide_eq_false r3
      have q4 : decide (cap - (n : Int) < lba) = true := decide_eq_true r4
      have hw : IntKind.i64.wrap (cap - (n : Int)) = cap - (n : Int) := wrap_i64 (by omega) (by omega)
      have hw2 : wrap64 (cap - (n : Int)) = cap - (n : Int) := by unfold wrap64; omega
      clear hv r0 r1 r2 r3 r4
      go_enter Try.func25, Try.ntmps25
      go_wp2_with (fail)
      go_ret
      exact ⟨(congrArg (fun x => Ending.returned (Value.int IntKind.i64 x)) HV.out.symm), balloc _ _⟩
    have hv : runE (n : Int) lba cap = 0 := if_pos ⟨by omega, by omega, by omega, by omega, by omega⟩
    have HV := Lib.hid hv
    have q0 : decide ((n : Int) < 1) = false := decide_eq_false r0
    have q1 : decide (8 < (n : Int)) = false := decide_eq_false r1
    have q2 : decide (lba < 0) = false := decide_eq_false r2
    have q3 : decide (cap < (n : Int)) = false := decide_eq_false r3
    have q4 : decide (cap - (n : Int) < lba) = false := decide_eq_false r4
    have hw : IntKind.i64.wrap (cap - (n : Int)) = cap - (n : Int) := wrap_i64 (by omega) (by omega)
    clear hv r0 r1 r2 r3 r4
    go_enter Try.func25, Try.ntmps25
    go_wp2_with (fail)
    go_ret
    exact ⟨(congrArg (fun x => Ending.returned (Value.int IntKind.i64 x)) HV.out.symm), balloc _ _⟩
  by_cases k5 : kind = 5
  · subst k5
    by_cases r9 : n = 2
    · subst r9
      by_cases r0 : (1 : Int) < 1
      · exact absurd r0 (by decide)
      by_cases r1 : 8 < (1 : Int)
      · exact absurd r1 (by decide)
      by_cases r2 : lba < 0
      · have hv : runE (1 : Int) lba cap = 2 := if_neg (fun c => by obtain ⟨x1, x2, x3, x4, x5⟩ := c; omega)
        have HV := Lib.hid hv
        have q0 : decide ((1 : Int) < 1) = false := decide_eq_false r0
        have q1 : decide (8 < (1 : Int)) = false := decide_eq_false r1
        have q2 : decide (lba < 0) = true := decide_eq_true r2
        clear hv r0 r1 r2
        go_enter Try.func25, Try.ntmps25
        go_wp2_with (fail)
        go_ret
        exact ⟨(congrArg (fun x => Ending.returned (Value.int IntKind.i64 x)) HV.out.symm), balloc _ _⟩
      by_cases r3 : cap < (1 : Int)
      · have hv : runE (1 : Int) lba cap = 2 := if_neg (fun c => by obtain ⟨x1, x2, x3, x4, x5⟩ := c; omega)
        have HV := Lib.hid hv
        have q0 : decide ((1 : Int) < 1) = false := decide_eq_false r0
        have q1 : decide (8 < (1 : Int)) = false := decide_eq_false r1
        have q2 : decide (lba < 0) = false := decide_eq_false r2
        have q3 : decide (cap < (1 : Int)) = true := decide_eq_true r3
        clear hv r0 r1 r2 r3
        go_enter Try.func25, Try.ntmps25
        go_wp2_with (fail)
        go_ret
        exact ⟨(congrArg (fun x => Ending.returned (Value.int IntKind.i64 x)) HV.out.symm), balloc _ _⟩
      by_cases r4 : cap - (1 : Int) < lba
      · have hv : runE (1 : Int) lba cap = 2 := if_neg (fun c => by obtain ⟨x1, x2, x3, x4, x5⟩ := c; omega)
        have HV := Lib.hid hv
        have q0 : decide ((1 : Int) < 1) = false := decide_eq_false r0
        have q1 : decide (8 < (1 : Int)) = false := decide_eq_false r1
        have q2 : decide (lba < 0) = false := decide_eq_false r2
        have q3 : decide (cap < (1 : Int)) = false := decide_eq_false r3
        have q4 : decide (cap - (1 : Int) < lba) = true := decide_eq_true r4
        have hw : IntKind.i64.wrap (cap - (1 : Int)) = cap - (1 : Int) := wrap_i64 (by omega) (by omega)
        have hw2 : wrap64 (cap - (1 : Int)) = cap - (1 : Int) := by unfold wrap64; omega
        clear hv r0 r1 r2 r3 r4
        go_enter Try.func25, Try.ntmps25
        go_wp2_with (fail)
        go_ret
        exact ⟨(congrArg (fun x => Ending.returned (Value.int IntKind.i64 x)) HV.out.symm), balloc _ _⟩
      have hv : runE (1 : Int) lba cap = 0 := if_pos ⟨by omega, by omega, by omega, by omega, by omega⟩
      have HV := Lib.hid hv
      have q0 : decide ((1 : Int) < 1) = false := decide_eq_false r0
      have q1 : decide (8 < (1 : Int)) = false := decide_eq_false r1
      have q2 : decide (lba < 0) = false := decide_eq_false r2
      have q3 : decide (cap < (1 : Int)) = false := decide_eq_false r3
      have q4 : decide (cap - (1 : Int) < lba) = false := decide_eq_false r4
      have hw : IntKind.i64.wrap (cap - (1 : Int)) = cap - (1 : Int) := wrap_i64 (by omega) (by omega)
      clear hv r0 r1 r2 r3 r4
      go_enter Try.func25, Try.ntmps25
      go_wp2_with (fail)
      go_ret
      exact ⟨(congrArg (fun x => Ending.returned (Value.int IntKind.i64 x)) HV.out.symm), balloc _ _⟩
    · have hv : (Cmd.mk 5 lba count n bs key res keep).chk cap = 2 := (if_neg r9 : (if n = 2 then runE 1 lba cap else 2) = 2)
      have HV := Lib.hid hv
      have q9 : ((n : Int) == 2) = false := bF (by omega)
      have p9 : ((n : Int) != 2) = true := by rw [bne, q9]; rfl
      clear hv r9
      go_enter Try.func25, Try.ntmps25
      go_wp2_with (fail)
      go_ret
      exact ⟨by first | (rw [HV.out]; done) | (rw [HV.out]; rfl), balloc _ _⟩
  have b1 := bF k1
  have b4 := bF k4
  have b7 := bF k7
  have b9 := bF k9
  have b10 := bF k10
  have b8 := bF k8
  have b11 := bF k11
  have b2 := bF k2
  have b6 := bF k6
  have b3 := bF k3
  have b5 := bF k5
  have hv : (Cmd.mk kind lba count n bs key res keep).chk cap = 2 := by
    unfold Cmd.chk
    simp only
    rw [if_neg (by omega), if_neg k8, if_neg k11, if_neg (by omega), if_neg k3, if_neg k5]
  have HV := Lib.hid hv
  clear hv k1 k4 k7 k9 k10 k8 k11 k2 k6 k3 k5
  go_enter Try.func25, Try.ntmps25
  go_wp2_with (fail)
  go_ret
  exact ⟨by first | (rw [HV.out]; done) | (rw [HV.out]; rfl), balloc _ _⟩
set_option maxRecDepth 100000 in
set_option maxHeartbeats 4000000 in
theorem rcheck_any (c : Cmd) (dv : Value) (cap : Int) (w : World) (hs : Secs w dv c) (hc : (Lit.int .i64 cap).wf = true) :
    Calls Try.prog 33 #[c.val dv, .int .i64 cap] w fun e w' => e = .returned (.int .i64 (c.chk cap)) ∧ Below w.heap.size w w' := by
  obtain ⟨A, cp, rfl, hn1, hn2⟩ : ∃ A cp, dv = .slice A c.n cp ∧ c.n ≤ cp ∧ cp ≤ maxLen := by
    obtain ⟨_, A, cp, h1, h2, h3, _⟩ := hs; exact ⟨A, cp, h1, h2, h3⟩
  obtain ⟨kind, lba, count, n, bs, key, res, keep⟩ := c
  have hc1 : -9223372036854775808 ≤ cap ∧ cap ≤ 9223372036854775807 := wf_i64 hc
  simp only at hn1
  clear hs hc
  unfold Cmd.val
  by_cases k1 : kind = 1
  · subst k1
    go_enter Try.func33, Try.ntmps33
    go_wp2_with (fail)
    go_ret
    exact ⟨rfl, balloc _ _⟩
  by_cases k4 : kind = 4
  · subst k4
    go_enter Try.func33, Try.ntmps33
    go_wp2_with (fail)
    go_ret
    exact ⟨rfl, balloc _ _⟩
  by_cases k7 : kind = 7
  · subst k7
    go_enter Try.func33, Try.ntmps33
    go_wp2_with (fail)
    go_ret
    exact ⟨rfl, balloc _ _⟩
  by_cases k9 : kind = 9
  · subst k9
    go_enter Try.func33, Try.ntmps33
    go_wp2_with (fail)
    go_ret
    exact ⟨rfl, balloc _ _⟩
  by_cases k10 : kind = 10
  · subst k10
    go_enter Try.func33, Try.ntmps33
    go_wp2_with (fail)
    go_ret
    exact ⟨rfl, balloc _ _⟩
  by_cases k8 : kind = 8
  · subst k8
    by_cases r0 : res < 1
    · have hv : (Cmd.mk 8 lba count n bs key res keep).chk cap = 2 := (if_neg (fun c => by omega) : (if (1 : Int) ≤ res ∧ res ≤ 4 then (0 : Int) else 2) = 2)
      have HV := Lib.hid hv
      have q0 : decide (res < 1) = true := decide_eq_true r0
      have p0 : decide (1 ≤ res) = false := decide_eq_false (by omega)
      clear hv r0
      go_enter Try.func33, Try.ntmps33
      go_wp2_with (fail)
      go_ret
      exact ⟨by first | (rw [HV.out]; done) | (rw [HV.out]; rfl), balloc _ _⟩
    by_cases r1 : 4 < res
    · have hv : (Cmd.mk 8 lba count n bs key res keep).chk cap = 2 := (if_neg (fun c => by omega) : (if (1 : Int) ≤ res ∧ res ≤ 4 then (0 : Int) else 2) = 2)
      have HV := Lib.hid hv
      have q0 : decide (res < 1) = false := decide_eq_false r0
      have q1 : decide (4 < res) = true := decide_eq_true r1
      have p0 : decide (1 ≤ res) = true := decide_eq_true (by omega)
      have p1 : decide (res ≤ 4) = false := decide_eq_false (by omega)
      clear hv r0 r1
      go_enter Try.func33, Try.ntmps33
      go_wp2_with (fail)
      go_ret
      exact ⟨by first | (rw [HV.out]; done) | (rw [HV.out]; rfl), balloc _ _⟩
    have hv : (Cmd.mk 8 lba count n bs key res keep).chk cap = 0 := (if_pos ⟨by omega, by omega⟩ : (if (1 : Int) ≤ res ∧ res ≤ 4 then (0 : Int) else 2) = 0)
    have HV := Lib.hid hv
    have q0 : decide (res < 1) = false := decide_eq_false r0
    have q1 : decide (4 < res) = false := decide_eq_false r1
    have p0 : decide (1 ≤ res) = true := decide_eq_true (by omega)
    have p1 : decide (res ≤ 4) = true := decide_eq_true (by omega)
    clear hv r0 r1
    go_enter Try.func33, Try.ntmps33
    go_wp2_with (fail)
    go_ret
    exact ⟨by first | (rw [HV.out]; done) | (rw [HV.out]; rfl), balloc _ _⟩
  by_cases k11 : kind = 11
  · subst k11
    by_cases r0 : key = 0
    · have hv : (Cmd.mk 11 lba count n bs key res keep).chk cap = 2 := (if_pos r0 : (if key = 0 then (2 : Int) else 0) = 2)
      have HV := Lib.hid hv
      have q0 := bT r0
      have q1 : (key != 0) = false := by rw [bne, q0]; rfl
      clear hv r0
      go_enter Try.func33, Try.ntmps33
      go_wp2_with (fail)
      go_ret
      exact ⟨by first | (rw [HV.out]; done) | (rw [HV.out]; rfl), balloc _ _⟩
    · have hv : (Cmd.mk 11 lba count n bs key res keep).chk cap = 0 := (if_neg r0 : (if key = 0 then (2 : Int) else 0) = 0)
      have HV := Lib.hid hv
      have q0 := bF r0
      have q1 : (key != 0) = true := by rw [bne, q0]; rfl
      clear hv r0
      go_enter Try.func33, Try.ntmps33
      go_wp2_with (fail)
      go_ret
      exact ⟨by first | (rw [HV.out]; done) | (rw [HV.out]; rfl), balloc _ _⟩
  by_cases k2 : kind = 2
  · subst k2
    by_cases r0 : count < 1
    · have hv : runE count lba cap = 2 := if_neg (fun c => by obtain ⟨x1, x2, x3, x4, x5⟩ := c; omega)
      have HV := Lib.hid hv
      have q0 : decide (count < 1) = true := decide_eq_true r0
      clear hv r0
      go_enter Try.func33, Try.ntmps33
      go_wp2_with (fail)
      go_ret
      exact ⟨(congrArg (fun x => Ending.returned (Value.int IntKind.i64 x)) HV.out.symm), balloc _ _⟩
    by_cases r1 : 8 < count
    · have hv : runE count lba cap = 2 := if_neg (fun c => by obtain ⟨x1, x2, x3, x4, x5⟩ := c; omega)
      have HV := Lib.hid hv
      have q0 : decide (count < 1) = false := decide_eq_false r0
      have q1 : decide (8 < count) = true := decide_eq_true r1
      clear hv r0 r1
      go_enter Try.func33, Try.ntmps33
      go_wp2_with (fail)
      go_ret
      exact ⟨(congrArg (fun x => Ending.returned (Value.int IntKind.i64 x)) HV.out.symm), balloc _ _⟩
    by_cases r2 : lba < 0
    · have hv : runE count lba cap = 2 := if_neg (fun c => by obtain ⟨x1, x2, x3, x4, x5⟩ := c; omega)
      have HV := Lib.hid hv
      have q0 : decide (count < 1) = false := decide_eq_false r0
      have q1 : decide (8 < count) = false := decide_eq_false r1
      have q2 : decide (lba < 0) = true := decide_eq_true r2
      clear hv r0 r1 r2
      go_enter Try.func33, Try.ntmps33
      go_wp2_with (fail)
      go_ret
      exact ⟨(congrArg (fun x => Ending.returned (Value.int IntKind.i64 x)) HV.out.symm), balloc _ _⟩
    by_cases r3 : cap < count
    · have hv : runE count lba cap = 2 := if_neg (fun c => by obtain ⟨x1, x2, x3, x4, x5⟩ := c; omega)
      have HV := Lib.hid hv
      have q0 : decide (count < 1) = false := decide_eq_false r0
      have q1 : decide (8 < count) = false := decide_eq_false r1
      have q2 : decide (lba < 0) = false := decide_eq_false r2
      have q3 : decide (cap < count) = true := decide_eq_true r3
      clear hv r0 r1 r2 r3
      go_enter Try.func33, Try.ntmps33
      go_wp2_with (fail)
      go_ret
      exact ⟨(congrArg (fun x => Ending.returned (Value.int IntKind.i64 x)) HV.out.symm), balloc _ _⟩
    by_cases r4 : cap - count < lba
    · have hv : runE count lba cap = 2 := if_neg (fun c => by obtain ⟨x1, x2, x3, x4, x5⟩ := c; omega)
      have HV := Lib.hid hv
      have q0 : decide (count < 1) = false := decide_eq_false r0
      have q1 : decide (8 < count) = false := decide_eq_false r1
      have q2 : decide (lba < 0) = false := decide_eq_false r2
      have q3 : decide (cap < count) = false := decide_eq_false r3
      have q4 : decide (cap - count < lba) = true := decide_eq_true r4
      have hw : IntKind.i64.wrap (cap - count) = cap - count := wrap_i64 (by omega) (by omega)
      have hw2 : wrap64 (cap - count) = cap - count := by unfold wrap64; omega
      clear hv r0 r1 r2 r3 r4
      go_enter Try.func33, Try.ntmps33
      go_wp2_with (fail)
      go_ret
      exact ⟨(congrArg (fun x => Ending.returned (Value.int IntKind.i64 x)) HV.out.symm), balloc _ _⟩
    have hv : runE count lba cap = 0 := if_pos ⟨by omega, by omega, by omega, by omega, by omega⟩
    have HV := Lib.hid hv
    have q0 : decide (count < 1) = false := decide_eq_false r0
    have q1 : decide (8 < count) = false := decide_eq_false r1
    have q2 : decide (lba < 0) = false := decide_eq_false r2
    have q3 : decide (cap < count) = false := decide_eq_false r3
    have q4 : decide (cap - count < lba) = false := decide_eq_false r4
    have hw : IntKind.i64.wrap (cap - count) = cap - count := wrap_i64 (by omega) (by omega)
    clear hv r0 r1 r2 r3 r4
    go_enter Try.func33, Try.ntmps33
    go_wp2_with (fail)
    go_ret
    exact ⟨(congrArg (fun x => Ending.returned (Value.int IntKind.i64 x)) HV.out.symm), balloc _ _⟩
  by_cases k6 : kind = 6
  · subst k6
    by_cases r0 : count < 1
    · have hv : runE count lba cap = 2 := if_neg (fun c => by obtain ⟨x1, x2, x3, x4, x5⟩ := c; omega)
      have HV := Lib.hid hv
      have q0 : decide (count < 1) = true := decide_eq_true r0
      clear hv r0
      go_enter Try.func33, Try.ntmps33
      go_wp2_with (fail)
      go_ret
      exact ⟨(congrArg (fun x => Ending.returned (Value.int IntKind.i64 x)) HV.out.symm), balloc _ _⟩
    by_cases r1 : 8 < count
    · have hv : runE count lba cap = 2 := if_neg (fun c => by obtain ⟨x1, x2, x3, x4, x5⟩ := c; omega)
      have HV := Lib.hid hv
      have q0 : decide (count < 1) = false := decide_eq_false r0
      have q1 : decide (8 < count) = true := decide_eq_true r1
      clear hv r0 r1
      go_enter Try.func33, Try.ntmps33
      go_wp2_with (fail)
      go_ret
      exact ⟨(congrArg (fun x => Ending.returned (Value.int IntKind.i64 x)) HV.out.symm), balloc _ _⟩
    by_cases r2 : lba < 0
    · have hv : runE count lba cap = 2 := if_neg (fun c => by obtain ⟨x1, x2, x3, x4, x5⟩ := c; omega)
      have HV := Lib.hid hv
      have q0 : decide (count < 1) = false := decide_eq_false r0
      have q1 : decide (8 < count) = false := decide_eq_false r1
      have q2 : decide (lba < 0) = true := decide_eq_true r2
      clear hv r0 r1 r2
      go_enter Try.func33, Try.ntmps33
      go_wp2_with (fail)
      go_ret
      exact ⟨(congrArg (fun x => Ending.returned (Value.int IntKind.i64 x)) HV.out.symm), balloc _ _⟩
    by_cases r3 : cap < count
    · have hv : runE count lba cap = 2 := if_neg (fun c => by obtain ⟨x1, x2, x3, x4, x5⟩ := c; omega)
      have HV := Lib.hid hv
      have q0 : decide (count < 1) = false := decide_eq_false r0
      have q1 : decide (8 < count) = false := decide_eq_false r1
      have q2 : decide (lba < 0) = false := decide_eq_false r2
      have q3 : decide (cap < count) = true := decide_eq_true r3
      clear hv r0 r1 r2 r3
      go_enter Try.func33, Try.ntmps33
      go_wp2_with (fail)
      go_ret
      exact ⟨(congrArg (fun x => Ending.returned (Value.int IntKind.i64 x)) HV.out.symm), balloc _ _⟩
    by_cases r4 : cap - count < lba
    · have hv : runE count lba cap = 2 := if_neg (fun c => by obtain ⟨x1, x2, x3, x4, x5⟩ := c; omega)
      have HV := Lib.hid hv
      have q0 : decide (count < 1) = false := decide_eq_false r0
      have q1 : decide (8 < count) = false := decide_eq_false r1
      have q2 : decide (lba < 0) = false := decide_eq_false r2
      have q3 : decide (cap < count) = false := decide_eq_false r3
      have q4 : decide (cap - count < lba) = true := decide_eq_true r4
      have hw : IntKind.i64.wrap (cap - count) = cap - count := wrap_i64 (by omega) (by omega)
      have hw2 : wrap64 (cap - count) = cap - count := by unfold wrap64; omega
      clear hv r0 r1 r2 r3 r4
      go_enter Try.func33, Try.ntmps33
      go_wp2_with (fail)
      go_ret
      exact ⟨(congrArg (fun x => Ending.returned (Value.int IntKind.i64 x)) HV.out.symm), balloc _ _⟩
    have hv : runE count lba cap = 0 := if_pos ⟨by omega, by omega, by omega, by omega, by omega⟩
    have HV := Lib.hid hv
    have q0 : decide (count < 1) = false := decide_eq_false r0
    have q1 : decide (8 < count) = false := decide_eq_false r1
    have q2 : decide (lba < 0) = false := decide_eq_false r2
    have q3 : decide (cap < count) = false := decide_eq_false r3
    have q4 : decide (cap - count < lba) = false := decide_eq_false r4
    have hw : IntKind.i64.wrap (cap - count) = cap - count := wrap_i64 (by omega) (by omega)
    clear hv r0 r1 r2 r3 r4
    go_enter Try.func33, Try.ntmps33
    go_wp2_with (fail)
    go_ret
    exact ⟨(congrArg (fun x => Ending.returned (Value.int IntKind.i64 x)) HV.out.symm), balloc _ _⟩
  by_cases k3 : kind = 3
  · subst k3
    by_cases r0 : (n : Int) < 1
    · have hv : runE (n : Int) lba cap = 2 := if_neg (fun c => by obtain ⟨x1, x2, x3, x4, x5⟩ := c; omega)
      have HV := Lib.hid hv
      have q0 : decide ((n : Int) < 1) = true := decide_eq_true r0
      clear hv r0
      go_enter Try.func33, Try.ntmps33
      go_wp2_with (fail)
      go_ret
      exact ⟨(congrArg (fun x => Ending.returned (Value.int IntKind.i64 x)) HV.out.symm), balloc _ _⟩
    by_cases r1 : 8 < (n : Int)
    · have hv : runE (n : Int) lba cap = 2 := if_neg (fun c => by obtain ⟨x1, x2, x3, x4, x5⟩ := c; omega)
      have HV := Lib.hid hv
      have q0 : decide ((n : Int) < 1) = false := decide_eq_false r0
      have q1 : decide (8 < (n : Int)) = true := decide_eq_true r1
      clear hv r0 r1
      go_enter Try.func33, Try.ntmps33
      go_wp2_with (fail)
      go_ret
      exact ⟨(congrArg (fun x => Ending.returned (Value.int IntKind.i64 x)) HV.out.symm), balloc _ _⟩
    by_cases r2 : lba < 0
    · have hv : runE (n : Int) lba cap = 2 := if_neg (fun c => by obtain ⟨x1, x2, x3, x4, x5⟩ := c; omega)
      have HV := Lib.hid hv
      have q0 : decide ((n : Int) < 1) = false := decide_eq_false r0
      have q1 : decide (8 < (n : Int)) = false := decide_eq_false r1
      have q2 : decide (lba < 0) = true := decide_eq_true r2
      clear hv r0 r1 r2
      go_enter Try.func33, Try.ntmps33
      go_wp2_with (fail)
      go_ret
      exact ⟨(congrArg (fun x => Ending.returned (Value.int IntKind.i64 x)) HV.out.symm), balloc _ _⟩
    by_cases r3 : cap < (n : Int)
    · have hv : runE (n : Int) lba cap = 2 := if_neg (fun c => by obtain ⟨x1, x2, x3, x4, x5⟩ := c; omega)
      have HV := Lib.hid hv
      have q0 : decide ((n : Int) < 1) = false := decide_eq_false r0
      have q1 : decide (8 < (n : Int)) = false := decide_eq_false r1
      have q2 : decide (lba < 0) = false := decide_eq_false r2
      have q3 : decide (cap < (n : Int)) = true := decide_eq_true r3
      clear hv r0 r1 r2 r3
      go_enter Try.func33, Try.ntmps33
      go_wp2_with (fail)
      go_ret
      exact ⟨(congrArg (fun x => Ending.returned (Value.int IntKind.i64 x)) HV.out.symm), balloc _ _⟩
    by_cases r4 : cap - (n : Int) < lba
    · have hv : runE (n : Int) lba cap = 2 := if_neg (fun c => by obtain ⟨x1, x2, x3, x4, x5⟩ := c; omega)
      have HV := Lib.hid hv
      have q0 : decide ((n : Int) < 1) = false := decide_eq_false r0
      have q1 : decide (8 < (n : Int)) = false := decide_eq_false r1
      have q2 : decide (lba < 0) = false := decide_eq_false r2
      have q3 : decide (cap < (n : Int)) = false := decide_eq_false r3
      have q4 : decide (cap - (n : Int) < lba) = true := decide_eq_true r4
      have hw : IntKind.i64.wrap (cap - (n : Int)) = cap - (n : Int) := wrap_i64 (by omega) (by omega)
      have hw2 : wrap64 (cap - (n : Int)) = cap - (n : Int) := by unfold wrap64; omega
      clear hv r0 r1 r2 r3 r4
      go_enter Try.func33, Try.ntmps33
      go_wp2_with (fail)
      go_ret
      exact ⟨(congrArg (fun x => Ending.returned (Value.int IntKind.i64 x)) HV.out.symm), balloc _ _⟩
    have hv : runE (n : Int) lba cap = 0 := if_pos ⟨by omega, by omega, by omega, by omega, by omega⟩
    have HV := Lib.hid hv
    have q0 : decide ((n : Int) < 1) = false := decide_eq_false r0
    have q1 : decide (8 < (n : Int)) = false := decide_eq_false r1
    have q2 : decide (lba < 0) = false := decide_eq_false r2
    have q3 : decide (cap < (n : Int)) = false := decide_eq_false r3
    have q4 : decide (cap - (n : Int) < lba) = false := decide_eq_false r4
    have hw : IntKind.i64.wrap (cap - (n : Int)) = cap - (n : Int) := wrap_i64 (by omega) (by omega)
    clear hv r0 r1 r2 r3 r4
    go_enter Try.func33, Try.ntmps33
    go_wp2_with (fail)
    go_ret
    exact ⟨(congrArg (fun x => Ending.returned (Value.int IntKind.i64 x)) HV.out.symm), balloc _ _⟩
  by_cases k5 : kind = 5
  · subst k5
    by_cases r9 : n = 2
    · subst r9
      by_cases r0 : (1 : Int) < 1
      · exact absurd r0 (by decide)
      by_cases r1 : 8 < (1 : Int)
      · exact absurd r1 (by decide)
      by_cases r2 : lba < 0
      · have hv : runE (1 : Int) lba cap = 2 := if_neg (fun c => by obtain ⟨x1, x2, x3, x4, x5⟩ := c; omega)
        have HV := Lib.hid hv
        have q0 : decide ((1 : Int) < 1) = false := decide_eq_false r0
        have q1 : decide (8 < (1 : Int)) = false := decide_eq_false r1
        have q2 : decide (lba < 0) = true := decide_eq_true r2
        clear hv r0 r1 r2
        go_enter Try.func33, Try.ntmps33
        go_wp2_with (fail)
        go_ret
        exact ⟨(congrArg (fun x => Ending.returned (Value.int IntKind.i64 x)) HV.out.symm), balloc _ _⟩
      by_cases r3 : cap < (1 : Int)
      · have hv : runE (1 : Int) lba cap = 2 := if_neg (fun c => by obtain ⟨x1, x2, x3, x4, x5⟩ := c; omega)
        have HV := Lib.hid hv
        have q0 : decide ((1 : Int) < 1) = false := decide_eq_false r0
        have q1 : decide (8 < (1 : Int)) = false := decide_eq_false r1
        have q2 : decide (lba < 0) = false := decide_eq_false r2
        have q3 : decide (cap < (1 : Int)) = true := decide_eq_true r3
        clear hv r0 r1 r2 r3
        go_enter Try.func33, Try.ntmps33
        go_wp2_with (fail)
        go_ret
        exact ⟨(congrArg (fun x => Ending.returned (Value.int IntKind.i64 x)) HV.out.symm), balloc _ _⟩
      by_cases r4 : cap - (1 : Int) < lba
      · have hv : runE (1 : Int) lba cap = 2 := if_neg (fun c => by obtain ⟨x1, x2, x3, x4, x5⟩ := c; omega)
        have HV := Lib.hid hv
        have q0 : decide ((1 : Int) < 1) = false := decide_eq_false r0
        have q1 : decide (8 < (1 : Int)) = false := decide_eq_false r1
        have q2 : decide (lba < 0) = false := decide_eq_false r2
        have q3 : decide (cap < (1 : Int)) = false := decide_eq_false r3
        have q4 : decide (cap - (1 : Int) < lba) = true := decide_eq_true r4
        have hw : IntKind.i64.wrap (cap - (1 : Int)) = cap - (1 : Int) := wrap_i64 (by omega) (by omega)
        have hw2 : wrap64 (cap - (1 : Int)) = cap - (1 : Int) := by unfold wrap64; omega
        clear hv r0 r1 r2 r3 r4
        go_enter Try.func33, Try.ntmps33
        go_wp2_with (fail)
        go_ret
        exact ⟨(congrArg (fun x => Ending.returned (Value.int IntKind.i64 x)) HV.out.symm), balloc _ _⟩
      have hv : runE (1 : Int) lba cap = 0 := if_pos ⟨by omega, by omega, by omega, by omega, by omega⟩
      have HV := Lib.hid hv
      have q0 : decide ((1 : Int) < 1) = false := decide_eq_false r0
      have q1 : decide (8 < (1 : Int)) = false := decide_eq_false r1
      have q2 : decide (lba < 0) = false := decide_eq_false r2
      have q3 : decide (cap < (1 : Int)) = false := decide_eq_false r3
      have q4 : decide (cap - (1 : Int) < lba) = false := decide_eq_false r4
      have hw : IntKind.i64.wrap (cap - (1 : Int)) = cap - (1 : Int) := wrap_i64 (by omega) (by omega)
      clear hv r0 r1 r2 r3 r4
      go_enter Try.func33, Try.ntmps33
      go_wp2_with (fail)
      go_ret
      exact ⟨(congrArg (fun x => Ending.returned (Value.int IntKind.i64 x)) HV.out.symm), balloc _ _⟩
    · have hv : (Cmd.mk 5 lba count n bs key res keep).chk cap = 2 := (if_neg r9 : (if n = 2 then runE 1 lba cap else 2) = 2)
      have HV := Lib.hid hv
      have q9 : ((n : Int) == 2) = false := bF (by omega)
      have p9 : ((n : Int) != 2) = true := by rw [bne, q9]; rfl
      clear hv r9
      go_enter Try.func33, Try.ntmps33
      go_wp2_with (fail)
      go_ret
      exact ⟨by first | (rw [HV.out]; done) | (rw [HV.out]; rfl), balloc _ _⟩
  have b1 := bF k1
  have b4 := bF k4
  have b7 := bF k7
  have b9 := bF k9
  have b10 := bF k10
  have b8 := bF k8
  have b11 := bF k11
  have b2 := bF k2
  have b6 := bF k6
  have b3 := bF k3
  have b5 := bF k5
  have hv : (Cmd.mk kind lba count n bs key res keep).chk cap = 2 := by
    unfold Cmd.chk
    simp only
    rw [if_neg (by omega), if_neg k8, if_neg k11, if_neg (by omega), if_neg k3, if_neg k5]
  have HV := Lib.hid hv
  clear hv k1 k4 k7 k9 k10 k8 k11 k2 k6 k3 k5
  go_enter Try.func33, Try.ntmps33
  go_wp2_with (fail)
  go_ret
  exact ⟨by first | (rw [HV.out]; done) | (rw [HV.out]; rfl), balloc _ _⟩
end Go.Proofs.Ytjpdjhmajjbgmaa.Wd
