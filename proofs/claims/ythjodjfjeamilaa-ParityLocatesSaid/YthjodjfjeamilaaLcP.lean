/- The program's Locate, walked. -/
import Derived.Test.YthjodjfjeamilaaLoc
set_option linter.unusedVariables false
set_option linter.unusedSimpArgs false
namespace Go.Proofs.Ythjodjfjeamilaa.Wd
open Go Go.RowKit Go.Proofs.YthjodjfjeamilaaW.PrintWords Go.Proofs.YthjodjfjeamilaaW.PrintLast Go.Proofs.YthjodjfjeamilaaW.PrintMore Go.Proofs.Ythjodjfjeamilaa.Bridge Go.Proofs.Ythjodjfjeamilaa.PA Go.Proofs.Ythjodjfjeamilaa.PB Go.Proofs.Ythjodjfjeamilaa.BrPA Go.Proofs.Ythjodjfjeamilaa.Pur
theorem results_2 {P : Program} {fn : Func} {a b : Tmp} (h : fn.results = #[.tmp a, .tmp b]) (tmps : Array Value) (w : World) :
    (results fn tmps).run P w = .ok (.tuple #[tmps.getD a undef, tmps.getD b undef]) w := by
  simp [results, h]
theorem I_eq (l m : List Nat) : decide (I l = I m) = decide (l = m) := by
  by_cases h : l = m
  · subst h; rw [decide_eq_true rfl, decide_eq_true rfl]
  · rw [decide_eq_false h, decide_eq_false (fun e => h (I_inj e))]
theorem equal_any (w : World) (A0 : Option Addr) (c0 : Nat) (l : List Nat) (A1 : Option Addr) (c1 : Nat) (m : List Nat) (h0 : RdB w A0 l) (k0 : (I l).length ≤ c0) (h1 : RdB w A1 m) (k1 : (I m).length ≤ c1) (hl : l.length ≤ 4096) (b : Bool) (hb : b = decide (l = m)) :
    Calls Try.prog 33 #[.slice A0 (I l).length c0, .slice A1 (I m).length c1] w fun e w' => e = .returned (.bool b) ∧ Below w.heap.size w w' := by
  subst hb
  obtain ⟨k, hk⟩ := (equal_ev (I l) (I m) (by rw [I_len]; omega)).rounds
  rw [I_eq] at hk
  refine (slices_Equal_byte_byte.calls k A0 c0 _ A1 c1 _ _ w h0 k0 h1 k1 hk).mono ?_
  rintro e w' ⟨he, hd⟩
  exact ⟨he, hd.below⟩
/-- What Locate answers, in memory. -/
def LocPost (w : World) (R : Int × Int → Prop) (e : Ending) (w' : World) : Prop := ∃ r : Int × Int, e = .returned (.tuple #[.int .i64 r.1, .int .i64 r.2]) ∧ R r ∧ Below w.heap.size w w'
set_option maxRecDepth 100000 in
set_option maxHeartbeats 4000000 in
theorem locate_bad (w : World) (A0 : Option Addr) (c0 : Nat) (cs : List (List Nat)) (A1 : Option Addr) (c1 : Nat) (p : List Nat) (A2 : Option Addr) (c2 : Nat) (q : List Nat) (h0 : Kd.C (Kd.slice 5 (Kd.int .u8)) w A0 (II cs).length (II cs)) (k0 : (II cs).length ≤ c0) (h1 : RdB w A1 p) (k1 : (I p).length ≤ c1) (h2 : RdB w A2 q) (k2 : (I q).length ≤ c2)
    (n l : Nat) (hW : parity_width.f (II cs) (II [p, q]) = some ((n : Int), (l : Int))) (hbad : n = 0 ∨ (n ≠ 0 ∧ 0 < l)) :
    Calls Try.prog 18 #[.slice A0 (II cs).length c0, .slice A1 (I p).length c1, .slice A2 (I q).length c2] w (LocPost w fun r => r = (0, 1)) := by
  have hcl := cols_lit w [(A1, c1, p), (A2, c2, q)] (by intro x hx; simp at hx; rcases hx with rfl | rfl; exact ⟨h1, k1⟩; exact ⟨h2, k2⟩) (by simp)
  have B1 := balloc w (.cells #[.slice A1 (I p).length c1, .slice A2 (I q).length c2] 24)
  have HC : Hid (Calls Try.prog 22 #[.slice A0 (II cs).length c0, .slice (some ⟨w.heap.size, 0, none⟩) 2 2] (w.alloc (.cells #[.slice A1 (I p).length c1, .slice A2 (I q).length c2] 24)) fun e w' => e = .returned (.tuple #[.int .i64 (n : Int), .int .i64 (l : Int)]) ∧ Below (w.alloc (.cells #[.slice A1 (I p).length c1, .slice A2 (I q).length c2] 24)).heap.size (w.alloc (.cells #[.slice A1 (I p).length c1, .slice A2 (I q).length c2] 24)) w') :=
    Lib.hid (width_any _ A0 c0 cs (some ⟨w.heap.size, 0, none⟩) 2 [p, q] (Kd.C_below h0 B1) k0 hcl (by simp [II]) (by simp) _ _ hW)
  have HB1 := Lib.hid B1
  clear hcl B1 hW h0 h1 h2
  rcases hbad with rfl | ⟨hn, hl⟩
  · have e1 : (((0 : Nat) : Int) == 0) = true := rfl
    go_enter Try.func18, Try.ntmps18
    go_wp2_with (fail)
    refine (HC.out).mono ?_
    rintro e w2 ⟨rfl, hb⟩
    have HB2 := Lib.hid (HB1.out.trans (hb.mono HB1.out.size))
    clear hb HC HB1
    go_wp2_with (fail)
    refine bodyPost_ret (results_2 rfl _ _) rfl ?_
    exact ⟨(0, 1), rfl, rfl, HB2.out⟩
  · have e1 : ((n : Int) == 0) = false := bF (by omega)
    have e2 : decide ((0 : Int) < (l : Int)) = true := decide_eq_true (by omega)
    have e3 : (0 : Int) < (l : Int) := by omega
    clear hn hl
    go_enter Try.func18, Try.ntmps18
    go_wp2_with (fail)
    refine (HC.out).mono ?_
    rintro e w2 ⟨rfl, hb⟩
    have HB2 := Lib.hid (HB1.out.trans (hb.mono HB1.out.size))
    clear hb HC HB1
    go_wp2_with (fail)
    refine bodyPost_ret (results_2 rfl _ _) rfl ?_
    exact ⟨(0, 1), rfl, rfl, HB2.out⟩
set_option maxRecDepth 100000 in
set_option maxHeartbeats 8000000 in
theorem locate_good (w : World) (A0 : Option Addr) (c0 : Nat) (cs : List (List Nat)) (A1 : Option Addr) (c1 : Nat) (p : List Nat) (A2 : Option Addr) (c2 : Nat) (q : List Nat) (h0 : Kd.C (Kd.slice 5 (Kd.int .u8)) w A0 (II cs).length (II cs)) (k0 : (II cs).length ≤ c0) (h1 : RdB w A1 p) (k1 : (I p).length ≤ c1) (h2 : RdB w A2 q) (k2 : (I q).length ≤ c2)
    (b0 : Bytt cs) (b1 : Byt p) (b2 : Byt q) (n l : Nat) (hl1 : 1 ≤ cs.length) (hl2 : cs.length ≤ 30) (hn1 : 1 ≤ n) (hn4 : n ≤ 4096) (hlc : ∀ c ∈ cs, c.length = n) (hlp : p.length = n) (hlq : q.length = n) (hl : l = 0) :
    Calls Try.prog 18 #[.slice A0 (II cs).length c0, .slice A1 (I p).length c1, .slice A2 (I q).length c2] w (LocPost w (Pur.Loc n cs p q)) := by
  have hs := snd_full hn1 hn4 hlc hlp hlq
  have hcl := cols_lit w [(A1, c1, p), (A2, c2, q)] (by intro x hx; simp at hx; rcases hx with rfl | rfl; exact ⟨h1, k1⟩; exact ⟨h2, k2⟩) (by simp)
  have B1 := balloc w (.cells #[.slice A1 (I p).length c1, .slice A2 (I q).length c2] 24)
  have hW := width_f2 cs [p, q] (by simp)
  rw [if_neg (by omega), wid_snd2 hs, ← hl] at hW
  have HC : Hid (Calls Try.prog 22 #[.slice A0 (II cs).length c0, .slice (some ⟨w.heap.size, 0, none⟩) 2 2] (w.alloc (.cells #[.slice A1 (I p).length c1, .slice A2 (I q).length c2] 24)) fun e w' => e = .returned (.tuple #[.int .i64 (n : Int), .int .i64 (l : Int)]) ∧ Below (w.alloc (.cells #[.slice A1 (I p).length c1, .slice A2 (I q).length c2] 24)).heap.size (w.alloc (.cells #[.slice A1 (I p).length c1, .slice A2 (I q).length c2] 24)) w') :=
    Lib.hid (width_any _ A0 c0 cs (some ⟨w.heap.size, 0, none⟩) 2 [p, q] (Kd.C_below h0 B1) k0 hcl (by simp [II]) (by simp) _ _ hW)
  have H0 := Lib.hid h0
  have H1 := Lib.hid h1
  have H2 := Lib.hid h2
  have HB1 := Lib.hid B1
  have HLC := Lib.hid hlc
  have HLP := Lib.hid hlp
  have HLQ := Lib.hid hlq
  clear hcl B1 hW h0 h1 h2 hs hlc hlp hlq
  have e1 : ((n : Int) == 0) = false := bF (by omega)
  have e2 : decide ((0 : Int) < (l : Int)) = false := decide_eq_false (by omega)
  have e3 : ¬ (0 : Int) < (l : Int) := by omega
  have e4 : ¬ 0 < l := by omega
  have e63 : (II cs).length ≤ 30 := by rw [II_len]; exact hl2
  clear hl
  go_enter Try.func18, Try.ntmps18
  go_wp2_with (fail)
  refine (HC.out).mono ?_
  rintro e w2 ⟨rfl, hb⟩
  have HB2 := Lib.hid (HB1.out.trans (hb.mono HB1.out.size))
  clear hb HC HB1
  have SM := Lib.hid (sums_any w2 A0 c0 cs n (Kd.C_below H0.out HB2.out) k0 b0 (fun c hc => by rw [HLC.out c hc]; exact Nat.le_refl _) hn4 hl2)
  go_wp2_with (fail)
  refine (SM.out).mono ?_
  rintro e w3 ⟨v0, v1, rfl, hs0, hs1, hap, hb3⟩
  clear e1 e2 e3 e4
  have HB3 := Lib.hid (HB2.out.trans (hb3.mono HB2.out.size))
  have HS3 : Hid (Own w3 w.heap.size v0 (tab n (wP cs))) := Lib.hid (own_lower hs0 HB2.out.size)
  have HT3 : Hid (Own w3 w.heap.size v1 (tab n (wQ cs))) := Lib.hid (own_lower hs1 HB2.out.size)
  have HAP := Lib.hid hap
  clear hs0 hs1 hap hb3 SM HB2
  have A1' := Lib.hid (add_any w w3 v0 n (wP cs) A1 c1 p 1 HB3.out HS3.out (H1.out.below HB3.out) k1 (far HS3.out H1.out) (fun k _ => wP_lt b0 k) b1 (by decide) (by rw [HLP.out]; exact Nat.le_refl _) hn4)
  go_wp2_with (fail)
  refine (A1'.out).mono ?_
  rintro e w4 ⟨rfl, hs4, hb4, hk4⟩
  have HS4 : Hid (Own w4 w.heap.size v0 (tab n (ss cs p))) := Lib.hid hs4
  have HT4 := Lib.hid (own_far HT3.out hk4 (fun k hk h => HAP.out k h.symm hk))
  have HB4 := Lib.hid hb4
  clear hs4 hb4 hk4 A1' HS3 HT3 HB3
  have A2' := Lib.hid (add_any w w4 v1 n (wQ cs) A2 c2 q 1 HB4.out HT4.out (H2.out.below HB4.out) k2 (far HT4.out H2.out) (fun k _ => wQ_lt b0 k) b2 (by decide) (by rw [HLQ.out]; exact Nat.le_refl _) hn4)
  go_wp2_with (fail)
  refine (A2'.out).mono ?_
  rintro e w5 ⟨rfl, ht5, hb5, hk5⟩
  have ht5' : Own w5 w.heap.size v1 (tab n (tt cs q)) := ht5
  have hs5 := own_far HS4.out hk5 (fun k hk h => HAP.out k hk h.symm)
  have HB5 := Lib.hid hb5
  obtain ⟨As, csn, rfl, hks, hrs⟩ := hs5.form
  obtain ⟨At, ctn, rfl, hkt, hrt⟩ := ht5'.form
  have hmk := mk_run n hn4
  have hmo := mk_own n hn4 w5 w5.heap.size (Nat.le_refl _)
  have hb6 := balloc w5 (.cells (u8n (tab n fun _ => 0)).toArray 5)
  have HRS := Lib.hid (hrs.below hb6)
  have HRT := Lib.hid (hrt.below hb6)
  have HB6 := Lib.hid (HB5.out.trans (hb6.mono HB5.out.size))
  obtain ⟨Az, cz, hez, hkz, hrz⟩ := hmo.form
  have HRZ := Lib.hid hrz
  clear ht5 hb5 hk5 A2' HS4 HT4 HB4 ht5' hs5 hrs hrt hmo hb6 hrz HB5
  generalize hz8 : (u8n (tab n fun _ => 0)).toArray = Z8 at *
  rw [I_len, tab_len] at hez hkz hks hkt
  injection hez with hea he2 he3
  subst hea he3
  have HBS := Lib.hid (rfl : decide (tab n (ss cs p) = tab n fun _ => 0) = decide (tab n (ss cs p) = tab n fun _ => 0))
  obtain ⟨bs, hbs⟩ : ∃ b, b = decide (tab n (ss cs p) = tab n fun _ => 0) := ⟨_, rfl⟩
  obtain ⟨bt, hbt⟩ : ∃ b, b = decide (tab n (tt cs q) = tab n fun _ => 0) := ⟨_, rfl⟩
  have Q1 : Hid (∀ W, Below (w5.alloc (.cells Z8 5)).heap.size (w5.alloc (.cells Z8 5)) W → Calls Try.prog 33 #[.slice As (I (tab n (ss cs p))).length csn, .slice (some ⟨w5.heap.size, 0, none⟩) n n] W fun e w' => e = .returned (.bool bs) ∧ Below W.heap.size W w') := Lib.hid (fun W hB => by
    have h := equal_any W As csn (tab n (ss cs p)) (some ⟨w5.heap.size, 0, none⟩) n (tab n fun _ => 0) (HRS.out.below hB) (by rw [I_len, tab_len]; exact hks) (HRZ.out.below hB) (by rw [I_len, tab_len]; exact Nat.le_refl _) (by rw [tab_len]; exact hn4) bs hbs
    rw [show (I (tab n fun _ => 0)).length = n by rw [I_len, tab_len]] at h
    exact h)
  have Q2 : Hid (∀ W, Below (w5.alloc (.cells Z8 5)).heap.size (w5.alloc (.cells Z8 5)) W → Calls Try.prog 33 #[.slice At (I (tab n (tt cs q))).length ctn, .slice (some ⟨w5.heap.size, 0, none⟩) n n] W fun e w' => e = .returned (.bool bt) ∧ Below W.heap.size W w') := Lib.hid (fun W hB => by
    have h := equal_any W At ctn (tab n (tt cs q)) (some ⟨w5.heap.size, 0, none⟩) n (tab n fun _ => 0) (HRT.out.below hB) (by rw [I_len, tab_len]; exact hkt) (HRZ.out.below hB) (by rw [I_len, tab_len]; exact Nat.le_refl _) (by rw [tab_len]; exact hn4) bt hbt
    rw [show (I (tab n fun _ => 0)).length = n by rw [I_len, tab_len]] at h
    exact h)
  have HBS' : Hid (bs = true ↔ S0 n cs p) := Lib.hid (by rw [hbs, decide_eq_true_iff]; exact s0_iff.symm)
  have HBT' : Hid (bt = true ↔ T0 n cs q) := Lib.hid (by rw [hbt, decide_eq_true_iff]; exact t0_iff.symm)
  clear hbs hbt HBS HRZ hkz
  generalize hw6 : w5.alloc (.cells Z8 5) = w6 at *
  go_wp2_with (fail)
  refine (Q1.out w6 (Below.refl _ _)).mono ?_
  rintro e w7 ⟨rfl, hb7⟩
  have HB7 := Lib.hid hb7
  clear hb7 Q1
  go_wp2_with (fail)
  refine (Q2.out w7 HB7.out).mono ?_
  rintro e w8 ⟨rfl, hb8⟩
  have HB8 := Lib.hid (HB7.out.trans (hb8.mono HB7.out.size))
  have HW8 := Lib.hid (HB6.out.trans (HB8.out.mono HB6.out.size))
  clear hb8 Q2 HB7 hw6
  cases bt with
  | true =>
    have ht : T0 n cs q := HBT'.out.1 rfl
    cases bs with
    | true =>
      have hs : S0 n cs p := HBS'.out.1 rfl
      have HL : Hid (Pur.Loc n cs p q (-1, 0)) := Lib.hid (.inl ⟨hs, ht, rfl⟩)
      clear hs ht
      go_wp2_with (fail)
      refine bodyPost_ret (results_2 rfl _ _) rfl ?_
      exact ⟨_, rfl, HL.out, HW8.out⟩
    | false =>
      have hs : ¬ S0 n cs p := fun h => by have := HBS'.out.2 h; cases this
      have HL : Hid (Pur.Loc n cs p q (((II cs).length : Int), 0)) := Lib.hid (by rw [II_len]; exact .inr (.inl ⟨hs, ht, rfl⟩))
      clear hs ht
      go_wp2_with (fail)
      refine bodyPost_ret (results_2 rfl _ _) rfl ?_
      exact ⟨_, rfl, HL.out, HW8.out⟩
  | false =>
    have ht : ¬ T0 n cs q := fun h => by have := HBT'.out.2 h; cases this
    cases bs with
    | true =>
      have hs : S0 n cs p := HBS'.out.1 rfl
      have HL : Hid (Pur.Loc n cs p q (((II cs).length : Int) + 1, 0)) := Lib.hid (by rw [II_len]; exact .inr (.inr (.inl ⟨hs, ht, rfl⟩)))
      clear hs ht
      go_wp2_with (fail)
      refine bodyPost_ret (results_2 rfl _ _) rfl ?_
      exact ⟨_, by go_num, HL.out, HW8.out⟩
    | false =>
      have hs : ¬ S0 n cs p := fun h => by have := HBS'.out.2 h; cases this
      have HS := Lib.hid hs
      have HT := Lib.hid ht
      have HRS8 := Lib.hid (HRS.out.below HB8.out)
      have HRT8 := Lib.hid (HRT.out.below HB8.out)
      clear hs ht HBS' HBT' HRS HRT HB8
      go_wp2_with (fail)
      go_loopg [67] ((II cs).length) (fun q' v67 wr => ∃ i : Nat, i ≤ (II cs).length ∧ v67 = .int .i64 (i : Int) ∧ q' = (II cs).length - i ∧ (∀ j, j < i → ¬ Pm n cs p q j) ∧ Below w8.heap.size w8 wr)
      case atStart => exact ⟨0, by omega, rfl, rfl, fun j hj => by omega, Below.refl _ _⟩
      case round =>
        obtain ⟨i, hi, rfl, hq, hno, hbi⟩ := hrel
        have HQ := Lib.hid hq
        have HNO := Lib.hid hno
        have HBI := Lib.hid hbi
        clear hq hno hbi
        by_cases hlt : i < (II cs).length
        · have hiI : (i : Int) < ((II cs).length : Int) := by omega
          have hox := mk_own n hn4 wr w8.heap.size HBI.out.size
          have hbx := balloc wr (.cells (u8n (tab n fun _ => 0)).toArray 5)
          have HOX := Lib.hid hox
          have HBX := Lib.hid (HBI.out.trans (hbx.mono HBI.out.size))
          have HWR := Lib.hid HBI.out.size
          clear hox hbx
          rw [hz8] at HOX HBX
          have EX := Lib.hid (exp_any i (wr.alloc (.cells Z8 5)))
          go_wp2_with (fail)
          refine (EX.out).mono ?_
          rintro e wa ⟨rfl, hba⟩
          have HOA := Lib.hid (own_belowB HOX.out hba)
          have HBA := Lib.hid (HBX.out.trans (hba.mono HBX.out.size))
          clear EX HOX HBX hba
          have hxt : ∀ a, As = some a → 0 < (tab n (ss cs p)).length → (Value.slice (some ⟨wr.heap.size, 0, none⟩) n n).ownBlock ≠ some a.block := by
            intro a ha h0 h
            subst ha
            obtain ⟨a', hA, hc⟩ := rdB_cell HRS8.out h0
            injection hA with hA
            subst hA
            have h2 := World.block_lt_of_cell? w8 _ (hc w8 (Below.refl _ _))
            have hbb : (a.add 0).block = a.block := by unfold Addr.add; split <;> rfl
            rw [hbb] at h2
            have h9 : wr.heap.size = a.block := by simpa [Value.ownBlock] using h
            have := HWR.out
            omega
          have AD := Lib.hid (add_any w8 wa (.slice (some ⟨wr.heap.size, 0, none⟩) n n) n (fun _ => 0) As csn (tab n (ss cs p)) (Math.e i) HBA.out HOA.out (HRS8.out.below HBA.out) (by rw [I_len, tab_len]; exact hks) hxt (fun _ _ => by decide) (tab_byt fun k _ => ss_lt b0 k) (Math.e_lt i) (by rw [tab_len]; exact Nat.le_refl _) hn4)
          clear hxt
          go_wp2_with (fail)
          refine (AD.out).mono ?_
          rintro e wb ⟨rfl, hob, hbb, _⟩
          have hob' : Own wb w8.heap.size (.slice (some ⟨wr.heap.size, 0, none⟩) n n) (tab n (fun k => Math.mul (Math.e i) (ss cs p k))) := by
            have e1 : tab n (fun k => 0 ^^^ Math.mul (Math.e i) ((tab n (ss cs p)).getD k 0)) = tab n (fun k => Math.mul (Math.e i) (ss cs p k)) := tab_congr fun k hk => by rw [tab_get hk, Nat.zero_xor]
            rw [← e1]; exact hob
          obtain ⟨Ax, cx, hex, hkx, hrx⟩ := hob'.form
          rw [I_len, tab_len] at hex hkx
          injection hex with hx1 hx2 hx3
          subst hx1 hx3
          obtain ⟨bx, hbx⟩ : ∃ b, b = decide (tab n (fun k => Math.mul (Math.e i) (ss cs p k)) = tab n (tt cs q)) := ⟨_, rfl⟩
          have HBB := Lib.hid hbb
          have QE : Hid (Calls Try.prog 33 #[.slice (some ⟨wr.heap.size, 0, none⟩) n n, .slice At (I (tab n (tt cs q))).length ctn] wb fun e w' => e = .returned (.bool bx) ∧ Below wb.heap.size wb w') := Lib.hid (by
            have h := equal_any wb (some ⟨wr.heap.size, 0, none⟩) n (tab n (fun k => Math.mul (Math.e i) (ss cs p k))) At ctn (tab n (tt cs q)) hrx (by rw [I_len, tab_len]; exact Nat.le_refl _) (HRT8.out.below HBB.out) (by rw [I_len, tab_len]; exact hkt) (by rw [tab_len]; exact hn4) bx hbx
            rw [show (I (tab n (fun k => Math.mul (Math.e i) (ss cs p k)))).length = n by rw [I_len, tab_len]] at h
            exact h)
          have HPM : Hid (bx = true ↔ Pm n cs p q i) := Lib.hid (by rw [hbx, decide_eq_true_iff]; exact pm_iff.symm)
          clear hob hbb hob' hrx hbx AD HOA HBA hkx
          go_wp2_with (fail)
          refine (QE.out).mono ?_
          rintro e wc ⟨rfl, hbc⟩
          have HBC := Lib.hid (HBB.out.trans (hbc.mono HBB.out.size))
          clear hbc QE HBB
          cases bx with
          | true =>
            have HL : Hid (Pur.Loc n cs p q ((i : Int), 0)) := Lib.hid (.inr (.inr (.inr (.inl ⟨HS.out, HT.out, i, by rw [II_len] at hlt; exact hlt, HPM.out.1 rfl, HNO.out, rfl⟩))))
            go_wp2_with (fail)
            refine bodyPost_ret (results_2 rfl _ _) rfl ?_
            exact ⟨_, rfl, HL.out, HW8.out.trans (HBC.out.mono HW8.out.size)⟩
          | false =>
            have HN2 : Hid (∀ j, j < i + 1 → ¬ Pm n cs p q j) := Lib.hid (fun j hj h => by
              rcases Nat.lt_or_ge j i with h1 | h1
              · exact HNO.out j h1 h
              · obtain rfl : j = i := by omega
                have := HPM.out.2 h
                cases this)
            go_wp2_with (fail)
            go_roundg ((II cs).length - (i + 1))
            case measure => have := HQ.out; omega
            case rel => exact ⟨i + 1, by omega, by go_num, rfl, HN2.out, HBC.out⟩
        · have HL : Hid (Pur.Loc n cs p q (0, 10)) := Lib.hid (.inr (.inr (.inr (.inr ⟨HS.out, HT.out, fun j hj => HNO.out j (by rw [II_len] at hlt; omega), rfl⟩))))
          obtain rfl : i = (II cs).length := by omega
          go_wp2_with (fail)
          refine bodyPost_ret (results_2 rfl _ _) rfl ?_
          exact ⟨_, rfl, HL.out, HW8.out.trans (HBI.out.mono HW8.out.size)⟩
end Go.Proofs.Ythjodjfjeamilaa.Wd
