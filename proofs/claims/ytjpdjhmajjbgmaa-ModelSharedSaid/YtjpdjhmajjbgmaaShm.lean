/- What a unit answers under a reservation: the plain part of ModelShared. -/
import Derived.Test.YtjpdjhmajjbgmaaBls
set_option linter.unusedVariables false
set_option linter.unusedSimpArgs false
namespace Go.Proofs.Ytjpdjhmajjbgmaa.Md
open Go Go.RowKit Res
open Wd (Cmd u8s balloc Rd)
section
variable {d : Dk} {cap : Nat} {ini : Int} {c : Cmd}
theorem g_ok (hi : isIn ini) (hc : c.chk cap = 0) : ¬ (¬ isIn ini ∨ ¬ c.chk cap = 0) := by simp [hi, hc]
theorem g_write (hi : isIn ini) (hc : c.chk cap = 0) (hk : c.kind = 3 ∨ c.kind = 5 ∨ c.kind = 6) : gateS d cap ini c = (3, 0, !d.may ini true) ∧ gateD d cap ini c = d := by
  unfold gateS gateD
  rw [if_neg (g_ok hi hc), if_neg (g_ok hi hc), if_neg (by omega), if_pos hk, if_neg (by omega), if_neg (by omega), if_neg (by omega), if_neg (by omega), if_neg (by omega)]
  exact ⟨rfl, rfl⟩
theorem g_read (hi : isIn ini) (hc : c.chk cap = 0) (hk : c.kind = 2) : gateS d cap ini c = (3, 0, !d.may ini false) ∧ gateD d cap ini c = d := by
  unfold gateS gateD
  rw [if_neg (g_ok hi hc), if_neg (g_ok hi hc), if_pos hk, if_neg (by omega), if_neg (by omega), if_neg (by omega), if_neg (by omega), if_neg (by omega)]
  exact ⟨rfl, rfl⟩
theorem g_reg (hi : isIn ini) (hc : c.chk cap = 0) (hk : c.kind = 7) : gateS d cap ini c = (if d.regE ini = 0 then (1, 0, true) else (3, 0, true)) ∧ gateD d cap ini c = d.reg ini c.key c.keep := by
  unfold gateS gateD
  rw [if_neg (g_ok hi hc), if_neg (g_ok hi hc), if_neg (by omega), if_neg (by omega), if_pos hk, if_pos hk]
  exact ⟨rfl, rfl⟩
theorem g_res (hi : isIn ini) (hc : c.chk cap = 0) (hk : c.kind = 8) : gateS d cap ini c = (if d.resE ini c.res = 0 then (1, 0, true) else (3, 0, true)) ∧ gateD d cap ini c = d.res ini c.res := by
  unfold gateS gateD
  rw [if_neg (g_ok hi hc), if_neg (g_ok hi hc)]
  simp [hk]
theorem g_clr (hi : isIn ini) (hc : c.chk cap = 0) (hk : c.kind = 10) : gateS d cap ini c = (if d.fault ini = 0 then (1, 0, true) else (3, 0, true)) ∧ gateD d cap ini c = d.clr ini := by
  unfold gateS gateD
  rw [if_neg (g_ok hi hc), if_neg (g_ok hi hc)]
  simp [hk]
theorem g_test (hi : isIn ini) (hc : c.chk cap = 0) (hk : c.kind = 1) : gateS d cap ini c = (0, 0, false) ∧ gateD d cap ini c = d := by
  unfold gateS gateD
  rw [if_neg (g_ok hi hc), if_neg (g_ok hi hc)]
  simp [hk]
end
/-- What Do answers and leaves, told at once: state and sense, desk, sectors. -/
def Doed (d : Dk) (n : Nat) (bs : List Int) (ini : Int) (c : Cmd) (st se : Int) (d' : Dk) (bs' : List Int) : Prop :=
  doS d n bs ini c = (st, se) ∧ gateD d n ini c = d' ∧ doB d n bs ini c = bs'
def cw (s : List Int) : Cmd := ⟨3, 1, 0, 1, s, 0, 0, false⟩
def cc (s t : List Int) : Cmd := ⟨5, 1, 0, 2, s ++ t, 0, 0, false⟩
def cu : Cmd := ⟨6, 1, 1, 0, [], 0, 0, false⟩
def cr : Cmd := ⟨2, 1, 1, 0, [], 0, 0, false⟩
def ct : Cmd := ⟨1, 0, 0, 0, [], 0, 0, false⟩
def cl : Cmd := ⟨10, 0, 0, 0, [], 0, 0, false⟩
def cg : Cmd := ⟨7, 0, 0, 0, [], 3, 0, false⟩
def cv (k : Int) : Cmd := ⟨8, 0, 0, 0, [], 0, k, false⟩
theorem chk_w (s : List Int) : (cw s).chk ((4 : Nat) : Int) = 0 := rfl
theorem chk_c (s t : List Int) : (cc s t).chk ((4 : Nat) : Int) = 0 := rfl
theorem chk_v {k : Int} (h1 : 1 ≤ k) (h4 : k ≤ 4) : (cv k).chk ((4 : Nat) : Int) = 0 := by
  unfold Cmd.chk cv
  simp [h1, h4]
section
variable {d : Dk} {bs : List Int} {i o : Int}
theorem s_all {c : Cmd} {st se : Int} {d' : Dk} (h : gateS d 4 i c = (st, se, true)) (hg : gateD d 4 i c = d') : Doed d 4 bs i c st se d' bs :=
  ⟨(do_all (bs := bs) h).1, hg, (do_all (bs := bs) h).2.1⟩
/-- A write that may be. -/
theorem s_write (hi : isIn i) (hm : d.may i true = true) (s : List Int) : Doed d 4 bs i (cw s) 1 0 d (splice bs 16 s) := by
  have h := g_write (d := d) hi (chk_w s) (.inl rfl)
  rw [hm] at h
  have h2 := do_k3 (bs := bs) h.1 rfl
  exact ⟨h2.1, h.2, by rw [h2.2.1]; rfl⟩
/-- What may not write is refused. -/
theorem s_conf {c : Cmd} (hi : isIn i) (hm : d.may i true = false) (hc : c.chk ((4 : Nat) : Int) = 0) (hk : c.kind = 3 ∨ c.kind = 5 ∨ c.kind = 6) : Doed d 4 bs i c 3 0 d bs := by
  have h := g_write (d := d) hi hc hk
  rw [hm] at h
  exact s_all h.1 h.2
theorem s_read (hi : isIn i) : Doed d 4 bs i cr (if d.may i false = true then 1 else 3) 0 d bs := by
  have h := g_read (d := d) (cap := 4) (c := cr) hi rfl rfl
  cases hm : d.may i false with
  | true =>
    rw [hm] at h
    have h2 := do_k2 (bs := bs) h.1 rfl
    exact ⟨h2.1, h.2, h2.2.1⟩
  | false =>
    rw [hm] at h
    exact s_all h.1 h.2
theorem s_test (hi : isIn i) : Doed d 4 bs i ct 1 0 d bs := by
  have h := g_test (d := d) (cap := 4) (c := ct) hi rfl rfl
  have h2 := do_else (bs := bs) h.1 (by decide) (by decide) (by decide) (by decide)
  exact ⟨h2.1, h.2, h2.2.1⟩
theorem s_clear (hi : isIn i) : Doed d 4 bs i cl (if d.fault i = 0 then 1 else 3) 0 (d.clr i) bs := by
  have h := g_clr (d := d) (cap := 4) (c := cl) hi rfl rfl
  by_cases hf : d.fault i = 0
  · rw [if_pos hf] at h ⊢
    exact s_all h.1 h.2
  · rw [if_neg hf] at h ⊢
    exact s_all h.1 h.2
theorem s_reg (hi : isIn i) : Doed d 4 bs i cg 1 0 (d.reg i 3 false) bs := by
  have h := g_reg (d := d) (cap := 4) (c := cg) hi rfl rfl
  have he : d.regE i = 0 := by unfold Dk.regE; rw [if_pos hi]
  rw [if_pos he] at h
  exact s_all h.1 h.2
theorem s_res {k : Int} (h1 : 1 ≤ k) (h4 : k ≤ 4) (hi : isIn i) : Doed d 4 bs i (cv k) (if d.resE i k = 0 then 1 else 3) 0 (d.res i k) bs := by
  have h := g_res (d := d) (cap := 4) (c := cv k) hi (chk_v h1 h4) rfl
  by_cases hf : d.resE i k = 0
  · rw [if_pos (show d.resE i (cv k).res = 0 from hf)] at h
    rw [if_pos hf]
    exact s_all h.1 h.2
  · rw [if_neg (show ¬ d.resE i (cv k).res = 0 from hf)] at h
    rw [if_neg hf]
    exact s_all h.1 h.2
end
theorem isIn_nat {a : Nat} (h : a < 16) : isIn (a : Int) := ⟨by omega, by omega⟩
/-- The desk of ModelShared behind its four first steps. -/
def D2 (i : Nat) (k : Int) : Dk := ⟨(List.replicate 16 0).set i 3, i, k, false⟩
theorem d1_eq {i : Nat} (hi : i < 16) : Dk.new.reg i 3 false = ⟨(List.replicate 16 0).set i 3, 0, 0, false⟩ := by
  unfold Dk.reg Dk.new
  rw [if_pos (isIn_nat hi)]
  simp
theorem new_res {i : Nat} (hi : i < 16) {k : Int} (h1 : 1 ≤ k) (h4 : k ≤ 4) : ¬ Dk.new.resE i k = 0 ∧ Dk.new.res i k = Dk.new := by
  have h : Dk.new.resE i k = 10 := by
    unfold Dk.resE
    rw [if_neg (by simp [isIn_nat hi]; omega), if_pos]
    unfold Dk.new Dk.key
    simp only [Int.toNat_natCast]
    rw [List.getD_eq_getElem?_getD, List.getElem?_replicate, if_pos hi]
    rfl
  refine ⟨by rw [h]; decide, ?_⟩
  unfold Dk.res
  rw [h]
  rfl
theorem d2_res {i : Nat} (hi : i < 16) {k : Int} (h1 : 1 ≤ k) (h4 : k ≤ 4) : (Dk.new.reg i 3 false).resE i k = 0 ∧ (Dk.new.reg i 3 false).res i k = D2 i k := by
  rw [d1_eq hi]
  have hk : (Dk.mk ((List.replicate 16 0).set i 3) 0 0 false).key i = 3 := by
    unfold Dk.key
    simp only
    rw [List.getD_eq_getElem?_getD, List.getElem?_set_self (by simpa using hi)]
    rfl
  have h : (Dk.mk ((List.replicate 16 0).set i 3) 0 0 false).resE i k = 0 := by
    unfold Dk.resE
    rw [if_neg (by simp [isIn_nat hi]; omega), if_neg (by rw [Int.toNat_natCast, hk]; decide)]
    simp
  refine ⟨h, ?_⟩
  unfold Dk.res
  rw [if_pos h]
  rfl
theorem d2_key_i {i : Nat} (hi : i < 16) (k : Int) : (D2 i k).key i = 3 := by
  unfold Dk.key D2
  simp only
  rw [List.getD_eq_getElem?_getD, List.getElem?_set_self (by simpa using hi)]
  rfl
theorem d2_key_o {i o : Nat} (ho : o < 16) (hne : i ≠ o) (k : Int) : (D2 i k).key o = 0 := by
  unfold Dk.key D2
  simp only
  rw [List.getD_eq_getElem?_getD, List.getElem?_set_ne hne, List.getElem?_replicate, if_pos ho]
  rfl
theorem d2_may_w {i o : Nat} (ho : o < 16) (hne : i ≠ o) {k : Int} (h1 : 1 ≤ k) (h4 : k ≤ 4) : (D2 i k).may o true = false := by
  unfold Dk.may
  rw [if_pos (isIn_nat ho), Int.toNat_natCast, d2_key_o ho hne]
  have e : (D2 i k).kind = k ∧ (D2 i k).holder = (i : Int) := ⟨rfl, rfl⟩
  rw [e.1, e.2, if_neg (by omega)]
  simp
theorem d2_may_r {i o : Nat} (ho : o < 16) (hne : i ≠ o) {k : Int} (h1 : 1 ≤ k) (h4 : k ≤ 4) : (D2 i k).may o false = decide (k = 1 ∨ k = 3) := by
  unfold Dk.may
  rw [if_pos (isIn_nat ho), Int.toNat_natCast, d2_key_o ho hne]
  have e : (D2 i k).kind = k ∧ (D2 i k).holder = (i : Int) := ⟨rfl, rfl⟩
  rw [e.1, e.2, if_neg (by omega)]
  by_cases k1 : k = 1
  · simp [k1]
  · by_cases k3 : k = 3
    · simp [k3]
    · simp [k1, k3]
theorem d2_fault_o {i o : Nat} (ho : o < 16) (hne : i ≠ o) (k : Int) : ¬ (D2 i k).fault o = 0 := by
  unfold Dk.fault
  rw [if_pos (isIn_nat ho), Int.toNat_natCast, d2_key_o ho hne]
  decide
theorem d2_clr_o {i o : Nat} (ho : o < 16) (hne : i ≠ o) (k : Int) : (D2 i k).clr o = D2 i k := by
  unfold Dk.clr
  rw [if_neg (d2_fault_o ho hne k)]
theorem d2_fault_i {i : Nat} (hi : i < 16) (k : Int) : (D2 i k).fault i = 0 := by
  unfold Dk.fault
  rw [if_pos (isIn_nat hi), Int.toNat_natCast, d2_key_i hi]
  decide
theorem d2_clr_i {i : Nat} (hi : i < 16) (k : Int) : (D2 i k).clr i = Dk.new := by
  unfold Dk.clr
  rw [if_pos (d2_fault_i hi k)]
  rfl
theorem new_may {i : Nat} (hi : i < 16) (w : Bool) : Dk.new.may i w = true := may_free rfl (isIn_nat hi) w
theorem sec_write {bs s : List Int} (hb : bs.length = 64) (hs : s.length = 16) : sec (splice bs 16 s) 1 = s := by
  have h := sec_splice bs s 1 1 1 (by omega) (by omega)
  rw [if_pos (by omega)] at h
  rw [Nat.one_mul] at h
  rw [h, Nat.sub_self]
  unfold sec
  rw [Nat.zero_mul, List.drop_zero, List.take_of_length_le (by omega)]
end Go.Proofs.Ytjpdjhmajjbgmaa.Md
