/- The document's Locate, walked: the same as the program's. -/
import Derived.Test.YthjodjfjeamilaaLcP
set_option linter.unusedVariables false
set_option linter.unusedSimpArgs false
namespace Go.Proofs.Ythjodjfjeamilaa.Wd
open Go Go.RowKit Go.Proofs.YthjodjfjeamilaaW.PrintWords Go.Proofs.YthjodjfjeamilaaW.PrintLast Go.Proofs.YthjodjfjeamilaaW.PrintMore Go.Proofs.Ythjodjfjeamilaa.Bridge Go.Proofs.Ythjodjfjeamilaa.PA Go.Proofs.Ythjodjfjeamilaa.PB Go.Proofs.Ythjodjfjeamilaa.BrPA Go.Proofs.Ythjodjfjeamilaa.Pur
theorem sameb_any (w : World) (A0 : Option Addr) (c0 : Nat) (l : List Nat) (A1 : Option Addr) (c1 : Nat) (m : List Nat) (h0 : RdB w A0 l) (k0 : (I l).length ≤ c0) (h1 : RdB w A1 m) (k1 : (I m).length ≤ c1) (hl : l.length ≤ 4096) (b : Bool) (hb : b = decide (l = m)) :
    Calls Try.prog 27 #[.slice A0 (I l).length c0, .slice A1 (I m).length c1] w fun e w' => e = .returned (.bool b) ∧ Below w.heap.size w w' := by
  subst hb
  obtain ⟨k, hk⟩ := (same_ev (I l) (I m) (by rw [I_len]; omega)).rounds
  rw [I_eq] at hk
  refine (ravelinref04_SameBytes.calls k A0 c0 _ A1 c1 _ _ w h0 k0 h1 k1 hk).mono ?_
  rintro e w' ⟨he, hd⟩
  exact ⟨he, hd.below⟩
theorem own_info {w : World} {base : Nat} {v : Value} {n : Nat} {xs : List Value} (h : w.ownsRow base 24 1 v n xs) : xs.length = n := by
  have := h.1
  omega
/-- The columns copied, and column i struck. -/
theorem try_run (W : World) (A0 : Option Addr) (c0 : Nat) (cs : List (List Nat)) (hC : Kd.C (Kd.slice 5 (Kd.int .u8)) W A0 (II cs).length (II cs)) (hl2 : cs.length ≤ 30) (i : Nat) (hi : i < cs.length) :
    ∃ rt ct w1, (Builtin.append_ #[22, 22] 22 #[.slice (some ⟨W.heap.size, 0, none⟩) 0 0, .slice A0 (II cs).length c0]).run Try.prog (W.alloc (.cells #[] 24)) = .ok (.slice (some ⟨rt, 0, none⟩) (II cs).length ct) w1 ∧ (II cs).length ≤ ct ∧ Below W.heap.size W w1 ∧ (∃ u, w1.cell? ⟨rt, i, none⟩ = some u) ∧ w1.frozen? ⟨rt, i, none⟩ = false ∧ Below W.heap.size W (w1.setCell ⟨rt, i, none⟩ (.slice none 0 0)) ∧ Kd.C (Kd.slice 5 (Kd.int .u8)) (w1.setCell ⟨rt, i, none⟩ (.slice none 0 0)) (some ⟨rt, 0, none⟩) (II (cs.set i [])).length (II (cs.set i [])) := by
  have B1 := balloc W (.cells #[] 24)
  have O1 : (W.alloc (.cells #[] 24)).ownsRow W.heap.size 24 1 (.slice (some ⟨W.heap.size, 0, none⟩) 0 0) 0 [] := World.ownsRow_lit W #[] 0 (Nat.le_refl _) (by unfold maxLen; omega) rfl
  obtain ⟨ys, hys⟩ := cl_of hC
  obtain ⟨v', w1, hr, ho, hg⟩ := cat22 (W.alloc (.cells #[] 24)) W.heap.size _ 0 [] A0 (II cs).length c0 ys (II cs) O1 (hys.below B1) (by rw [II_len]; omega) B1.size
  rw [Nat.zero_add, List.nil_append] at ho
  obtain ⟨A, ct, rfl, hct, _⟩ := own_form ho
  obtain ⟨rt, rfl, hlo, _⟩ := own_addr ho (by rw [II_len]; omega)
  have hB1 : Below W.heap.size W w1 := B1.grown hg (by simp) (fun q hq => by simp [Value.ownBlock] at hq; omega)
  have hO : Only [rt] w1 (w1.setCell ⟨rt, i, none⟩ (.slice none 0 0)) := Only.set (p := ⟨rt, i, none⟩) _
  have hB2 : Below W.heap.size W (w1.setCell ⟨rt, i, none⟩ (.slice none 0 0)) := Only.below hB1 hO hB1.size (by simp; exact hlo)
  have hyl := hys.ylen
  have hrow := own_set (k := i) ho (.slice none 0 0)
  refine ⟨rt, ct, w1, hr, hct, hB1, ⟨_, (own_cell ho (j := i) (by rw [II_len]; omega)).trans (List.getElem?_eq_getElem (by rw [hyl, II_len]; exact hi))⟩, own_frozen ho i, hB2, ?_⟩
  refine ⟨rfl, by rw [II_len, List.length_set]; omega, fun _ => ⟨_, rfl, fun j q hq => ?_⟩⟩
  have hj : j < cs.length := by have := (List.getElem?_eq_some_iff.1 hq).1; rw [II_len, List.length_set] at this; exact this
  have hyj : ys[j]? = some (ys[j]'(by rw [hyl, II_len]; exact hj)) := List.getElem?_eq_getElem _
  have hcell : (w1.setCell ⟨rt, i, none⟩ (.slice none 0 0)).cell? ⟨rt, j, none⟩ = (ys.set i (.slice none 0 0))[j]? := own_cell hrow (j := j) (by rw [II_len]; omega)
  have haddr : j * (Kd.slice 5 (Kd.int .u8)).sz + 0 = j ∧ (⟨rt, 0, none⟩ : Addr).add j = ⟨rt, j, none⟩ := ⟨by show j * 1 + 0 = j; omega, by rw [addr_add, Nat.zero_add]⟩
  by_cases hji : i = j
  · subst hji
    have e : q = [] := by
      unfold II at hq
      rw [List.getElem?_map, List.getElem?_set, if_pos rfl, if_pos hi] at hq
      injection hq with hq
      exact hq.symm
    subst e
    refine ⟨[.slice none 0 0], rfl, ⟨none, 0, rfl, Nat.le_refl _, Kd.C_nil _ _⟩, fun z u hu => ?_⟩
    have hz : z = 0 := by have := (List.getElem?_eq_some_iff.1 hu).1; simp at this; exact this
    subst hz
    simp only [List.getElem?_cons_zero, Option.some.injEq] at hu
    subst hu
    rw [haddr.1, haddr.2, hcell, List.getElem?_set, if_pos rfl, if_pos (by rw [hyl, II_len]; exact hi)]
  · have hqj : (II cs)[j]? = some q := by
      unfold II at hq ⊢
      rw [List.getElem?_map, List.getElem?_set, if_neg hji] at hq
      rw [List.getElem?_map]
      exact hq
    obtain ⟨A', c', he, h1, h2⟩ := hys.el j q _ hqj hyj
    refine ⟨[ys[j]'(by rw [hyl, II_len]; exact hj)], rfl, ⟨A', c', by rw [he], h1, Kd.C_below h2 hB2⟩, fun z u hu => ?_⟩
    have hz : z = 0 := by have := (List.getElem?_eq_some_iff.1 hu).1; simp at this; exact this
    subst hz
    simp only [List.getElem?_cons_zero, Option.some.injEq] at hu
    subst hu
    rw [haddr.1, haddr.2, hcell, List.getElem?_set, if_neg hji]
    exact hyj
set_option maxRecDepth 100000 in
set_option maxHeartbeats 8000000 in
theorem rlocate_bad (w : World) (A0 : Option Addr) (c0 : Nat) (cs : List (List Nat)) (A1 : Option Addr) (c1 : Nat) (p : List Nat) (A2 : Option Addr) (c2 : Nat) (q : List Nat) (h0 : Kd.C (Kd.slice 5 (Kd.int .u8)) w A0 (II cs).length (II cs)) (k0 : (II cs).length ≤ c0) (h1 : RdB w A1 p) (k1 : (I p).length ≤ c1) (h2 : RdB w A2 q) (k2 : (I q).length ≤ c2)
    (hn : cs.length + 2 < 5864062014805) (hcl : ∀ c ∈ cs ++ [p, q], c.length < 4611686018427387904) (n l : Nat) (b : Bool) (hb : b = decide (1 ≤ cs.length ∧ cs.length ≤ 30)) (hW : widR (lens (cs ++ [p, q])) 0 0 = (n, l)) (hbad : b = false ∨ (b = true ∧ n = 0) ∨ (b = true ∧ n ≠ 0 ∧ 0 < l)) :
    Calls Try.prog 19 #[.slice A0 (II cs).length c0, .slice A1 (I p).length c1, .slice A2 (I q).length c2] w (LocPost w fun r => r = (0, 1)) := by
  have AH := Lib.hid (ahead_any w A0 c0 cs A1 c1 p A2 c2 q h0 k0 h1 k1 h2 k2 hn)
  have WD : Hid (∀ W A c, Kd.C (Kd.slice 5 (Kd.int .u8)) W A (II (cs ++ [p, q])).length (II (cs ++ [p, q])) → (II (cs ++ [p, q])).length ≤ c → Calls Try.prog 24 #[.slice A (II (cs ++ [p, q])).length c] W fun e w' => e = .returned (.tuple #[.int .i64 (n : Int), .int .i64 (l : Int)]) ∧ Below W.heap.size W w') := Lib.hid (fun W A c hC hc => by
    have h := rwidth_any W A c (cs ++ [p, q]) hC hc hcl (by simp; omega)
    rw [hW] at h
    exact h)
  have FT : Hid (∀ W, Below w.heap.size w W → Calls Try.prog 25 #[.slice A0 (II cs).length c0] W fun e w' => e = .returned (.bool b) ∧ Below W.heap.size W w') := Lib.hid (fun W hB => fits_any W A0 c0 cs (Kd.C_below h0 hB) k0 b hb)
  have hx := hbad
  clear hbad hb hW hn hcl h0 h1 h2
  go_enter Try.func19, Try.ntmps19
  go_wp2_with (fail)
  refine (AH.out).mono ?_
  rintro e w1 ⟨Aw, cw, rfl, hcw, hCw, hb1⟩
  have W2 := Lib.hid (WD.out w1 Aw cw hCw hcw)
  have HB1 := Lib.hid hb1
  clear hcw hCw hb1
  generalize (II (cs ++ [p, q])).length = L at *
  go_wp2_with (fail)
  refine (W2.out).mono ?_
  rintro e w2 ⟨rfl, hb2⟩
  have HB2 := Lib.hid (HB1.out.trans (hb2.mono HB1.out.size))
  have F2 := Lib.hid (FT.out w2 HB2.out)
  clear hb2 W2 AH WD HB1
  go_wp2_with (fail)
  refine (F2.out).mono ?_
  rintro e w3 ⟨rfl, hb3⟩
  have HB3 := Lib.hid (HB2.out.trans (hb3.mono HB2.out.size))
  clear hb3 F2 FT HB2
  rcases hx with rfl | ⟨rfl, rfl⟩ | ⟨rfl, hn0, hl0⟩
  · go_wp2_with (fail)
    refine bodyPost_ret (results_2 rfl _ _) rfl ?_
    exact ⟨(0, 1), rfl, rfl, HB3.out⟩
  · have e1 : (((0 : Nat) : Int) == 0) = true := rfl
    go_wp2_with (fail)
    refine bodyPost_ret (results_2 rfl _ _) rfl ?_
    exact ⟨(0, 1), rfl, rfl, HB3.out⟩
  · have e1 : ((n : Int) == 0) = false := bF (by omega)
    have e2 : decide ((0 : Int) < (l : Int)) = true := decide_eq_true (by omega)
    have e3 : (0 : Int) < (l : Int) := by omega
    clear hn0
    go_wp2_with (fail)
    refine bodyPost_ret (results_2 rfl _ _) rfl ?_
    exact ⟨(0, 1), rfl, rfl, HB3.out⟩
set_option maxRecDepth 100000 in
set_option maxHeartbeats 8000000 in
theorem rlocate_good (w : World) (A0 : Option Addr) (c0 : Nat) (cs : List (List Nat)) (A1 : Option Addr) (c1 : Nat) (p : List Nat) (A2 : Option Addr) (c2 : Nat) (q : List Nat) (h0 : Kd.C (Kd.slice 5 (Kd.int .u8)) w A0 (II cs).length (II cs)) (k0 : (II cs).length ≤ c0) (h1 : RdB w A1 p) (k1 : (I p).length ≤ c1) (h2 : RdB w A2 q) (k2 : (I q).length ≤ c2)
    (b0 : Bytt cs) (b1 : Byt p) (b2 : Byt q) (n l : Nat) (hl1 : 1 ≤ cs.length) (hl2 : cs.length ≤ 30) (hn1 : 1 ≤ n) (hn4 : n ≤ 4096) (hlc : ∀ c ∈ cs, c.length = n) (hlp : p.length = n) (hlq : q.length = n) (hl : l = 0) :
    Calls Try.prog 19 #[.slice A0 (II cs).length c0, .slice A1 (I p).length c1, .slice A2 (I q).length c2] w (LocPost w (Pur.Loc n cs p q)) := by
  have hs := snd_full hn1 hn4 hlc hlp hlq
  have hlens : ∀ c ∈ cs ++ [p, q], c.length < 4611686018427387904 := fun c hc => by rcases hs.all _ (List.mem_map.2 ⟨c, hc, rfl⟩) with h | h <;> omega
  have AH := Lib.hid (ahead_any w A0 c0 cs A1 c1 p A2 c2 q h0 k0 h1 k1 h2 k2 (by omega))
  have WD : Hid (∀ W A c, Kd.C (Kd.slice 5 (Kd.int .u8)) W A (II (cs ++ [p, q])).length (II (cs ++ [p, q])) → (II (cs ++ [p, q])).length ≤ c → Calls Try.prog 24 #[.slice A (II (cs ++ [p, q])).length c] W fun e w' => e = .returned (.tuple #[.int .i64 (n : Int), .int .i64 (l : Int)]) ∧ Below W.heap.size W w') := Lib.hid (fun W A c hC hc => by
    have h := rwidth_any W A c (cs ++ [p, q]) hC hc hlens (by simp; omega)
    rw [widR_eq hs] at h
    subst hl
    exact h)
  have FT : Hid (∀ W, Below w.heap.size w W → Calls Try.prog 25 #[.slice A0 (II cs).length c0] W fun e w' => e = .returned (.bool true) ∧ Below W.heap.size W w') := Lib.hid (fun W hB => fits_any W A0 c0 cs (Kd.C_below h0 hB) k0 true (by simp; omega))
  have EN : Hid (∀ W, Below w.heap.size w W → Calls Try.prog 12 #[.slice A0 (II cs).length c0] W fun e w' => ∃ v0 v1, e = .returned (.tuple #[v0, v1, .int .i64 0]) ∧ Own w' W.heap.size v0 (tab n (wP cs)) ∧ Own w' W.heap.size v1 (tab n (wQ cs)) ∧ (∀ k, v0.ownBlock = some k → v1.ownBlock ≠ some k) ∧ Below W.heap.size W w') := Lib.hid (fun W hB => rencode_any W A0 c0 cs _ _ _ (Kd.C_below h0 hB) k0 (renc_ok cs n b0 (Good.of hl1 hl2 hn1 hn4 hlc)))
  have TR : Hid (∀ W, Below w.heap.size w W → ∀ i, i < cs.length → _) := Lib.hid (fun W hB i hi => try_run W A0 c0 cs (Kd.C_below h0 hB) hl2 i hi)
  have RC : Hid (∀ W A c i, Below w.heap.size w W → i < cs.length → Kd.C (Kd.slice 5 (Kd.int .u8)) W A (II (cs.set i [])).length (II (cs.set i [])) → (II cs).length ≤ c → Calls Try.prog 21 #[.slice A (II cs).length c, .slice A1 (I p).length c1, .slice A2 (I q).length c2] W (RcvPost W (cs.set i (tri n cs p i), p, q, 0))) := Lib.hid (fun W A c i hB hi hC hc => by
    have h := rrecover_any W A c (cs.set i []) A1 c1 p A2 c2 q hC (by rw [II_len, List.length_set, ← II_len]; exact hc) (h1.below hB) k1 (h2.below hB) k2 (set_bytt b0 (by intro x hx; cases hx)) b1 b2 (by rw [List.length_set]; omega) (fun c hc => by
      simp at hc
      rcases hc with hc | rfl | rfl
      · rcases List.mem_or_eq_of_mem_set hc with h | rfl
        · exact hlens c (by simp [h])
        · decide
      · exact hlens _ (by simp)
      · exact hlens _ (by simp))
    rw [rcv_tri hn1 hn4 hl1 hl2 hlc hlp hlq hi, show (II (cs.set i [])).length = (II cs).length by rw [II_len, II_len, List.length_set]] at h
    exact h)
  have H1 := Lib.hid h1
  have H2 := Lib.hid h2
  have HLC := Lib.hid hlc
  have HLP := Lib.hid hlp
  have HLQ := Lib.hid hlq
  clear h0 h1 h2 hs hlc hlp hlq hlens
  have e1 : ((n : Int) == 0) = false := bF (by omega)
  have e2 : decide ((0 : Int) < (l : Int)) = false := decide_eq_false (by omega)
  have e3 : ¬ (0 : Int) < (l : Int) := by omega
  have e4 : ¬ 0 < l := by omega
  have e63 : (II cs).length ≤ 30 := by rw [II_len]; exact hl2
  clear hl
  go_enter Try.func19, Try.ntmps19
  go_wp2_with (fail)
  refine (AH.out).mono ?_
  rintro e w1 ⟨Aw, cw, rfl, hcw, hCw, hb1⟩
  have W2 := Lib.hid (WD.out w1 Aw cw hCw hcw)
  have HB1 := Lib.hid hb1
  clear hcw hCw hb1
  generalize (II (cs ++ [p, q])).length = L at *
  go_wp2_with (fail)
  refine (W2.out).mono ?_
  rintro e w2 ⟨rfl, hb2⟩
  have HB2 := Lib.hid (HB1.out.trans (hb2.mono HB1.out.size))
  have F2 := Lib.hid (FT.out w2 HB2.out)
  clear hb2 W2 AH WD HB1
  go_wp2_with (fail)
  refine (F2.out).mono ?_
  rintro e w3 ⟨rfl, hb3⟩
  have HB3 := Lib.hid (HB2.out.trans (hb3.mono HB2.out.size))
  clear hb3 F2 FT HB2
  have E3 := Lib.hid (EN.out w3 HB3.out)
  go_wp2_with (fail)
  refine (E3.out).mono ?_
  rintro e w4 ⟨v10, v11, rfl, ho10, ho11, _, hb4⟩
  clear e1 e2 e3 e4
  have HB4 := Lib.hid (HB3.out.trans (hb4.mono HB3.out.size))
  obtain ⟨A10, c10, rfl, k10, r10⟩ := ho10.form
  obtain ⟨A11, c11, rfl, k11, r11⟩ := ho11.form
  have HX := Lib.hid r10
  have HYY := Lib.hid r11
  clear ho10 ho11 hb4 r10 r11 E3 EN HB3
  obtain ⟨bs, hbs⟩ : ∃ b, b = decide (tab n (wP cs) = p) := ⟨_, rfl⟩
  obtain ⟨bt, hbt⟩ : ∃ b, b = decide (tab n (wQ cs) = q) := ⟨_, rfl⟩
  have QX : Hid (∀ W, Below w4.heap.size w4 W → Calls Try.prog 27 #[.slice A10 (I (tab n (wP cs))).length c10, .slice A1 (I p).length c1] W fun e w' => e = .returned (.bool bs) ∧ Below W.heap.size W w') := Lib.hid (fun W hB => sameb_any W A10 c10 _ A1 c1 p (HX.out.below hB) k10 ((H1.out.below HB4.out).below hB) k1 (by rw [tab_len]; exact hn4) bs hbs)
  have QY : Hid (∀ W, Below w4.heap.size w4 W → Calls Try.prog 27 #[.slice A11 (I (tab n (wQ cs))).length c11, .slice A2 (I q).length c2] W fun e w' => e = .returned (.bool bt) ∧ Below W.heap.size W w') := Lib.hid (fun W hB => sameb_any W A11 c11 _ A2 c2 q (HYY.out.below hB) k11 ((H2.out.below HB4.out).below hB) k2 (by rw [tab_len]; exact hn4) bt hbt)
  have HBS : Hid (bs = true ↔ S0 n cs p) := Lib.hid (by rw [hbs, decide_eq_true_iff]; exact (s0_ref b1 HLP.out).symm)
  have HBT : Hid (bt = true ↔ T0 n cs q) := Lib.hid (by rw [hbt, decide_eq_true_iff]; exact (t0_ref b2 HLQ.out).symm)
  clear hbs hbt HX HYY
  have Q4 := Lib.hid (QX.out w4 (Below.refl _ _))
  go_wp2_with (fail)
  refine (Q4.out).mono ?_
  rintro e w5 ⟨rfl, hb5⟩
  have HB5 := Lib.hid hb5
  clear hb5 Q4
  have hmain : ∀ w6, Below w4.heap.size w4 w6 → True := fun _ _ => trivial
  clear hmain
  cases bs with
  | true =>
    have Q5 := Lib.hid (QY.out w5 HB5.out)
    go_wp2_with (fail)
    refine (Q5.out).mono ?_
    rintro e w6 ⟨rfl, hb6⟩
    have HB6 := Lib.hid (HB5.out.trans (hb6.mono HB5.out.size))
    clear hb6 Q5 HB5
    cases bt with
    | true =>
      have HL : Hid (Pur.Loc n cs p q (-1, 0)) := Lib.hid (.inl ⟨HBS.out.1 (by trivial), HBT.out.1 (by trivial), rfl⟩)
      go_wp2_with (fail)
      refine bodyPost_ret (results_2 rfl _ _) rfl ?_
      exact ⟨_, rfl, HL.out, HB4.out.trans (HB6.out.mono HB4.out.size)⟩
    | false =>
      have HNB : Hid (¬ (S0 n cs p ∧ T0 n cs q)) := Lib.hid (fun h => by have := HBT.out.2 h.2; cases this)
      go_wp2_with (fail)
      go_loopg [13] ((II cs).length) (fun q' v13 wr => ∃ i : Nat, i ≤ (II cs).length ∧ v13 = .int .i64 (i : Int) ∧ q' = (II cs).length - i ∧ (∀ j, j < i → ¬ Pm n cs p q j) ∧ Below w4.heap.size w4 wr)
      case atStart => exact ⟨0, by omega, rfl, rfl, fun j hj => by omega, HB6.out⟩
      case round =>
        obtain ⟨i, hi, rfl, hq, hno, hbi⟩ := hrel
        clear HB6
        have HQ := Lib.hid hq
        have HNO := Lib.hid hno
        have HBI := Lib.hid hbi
        have HBR := Lib.hid (HB4.out.trans (hbi.mono HB4.out.size))
        clear hq hno hbi
        by_cases hlt : i < (II cs).length
        · have hiI : (i : Int) < ((II cs).length : Int) := by omega
          have hin : i < cs.length := by rw [II_len] at hlt; exact hlt
          obtain ⟨rt, ct, w7, hr7, hct, hb7, ⟨u, hu⟩, hfz, hb8, hC8⟩ := TR.out wr HBR.out i hin
          have HR7 := Lib.hid hr7
          have HB8 := Lib.hid hb8
          have HBR8 := Lib.hid (HBR.out.trans (hb8.mono HBR.out.size))
          have R8 := Lib.hid (RC.out (w7.setCell ⟨rt, i, none⟩ (.slice none 0 0)) (some ⟨rt, 0, none⟩) ct i HBR8.out hin hC8 hct)
          clear hr7 hb7 hb8 hC8
          go_wp2_with (first
            | (at_builtin; refine wpList_append_ran rfl (.tmp 61) (.tmp 62) 22 rfl _ _ rfl rfl _ w7 HR7.out ?_))
          refine (R8.out).mono ?_
          rintro e w9 ⟨v15, v16, v17, ys, rfl, g0, _, _, _, _, gb⟩
          have HB9 := Lib.hid (HB8.out.trans (gb.mono HB8.out.size))
          simp only at g0
          have htr : (tri n cs p i).length = n := tab_len _ _
          have hbt9 : Bytt (cs.set i (tri n cs p i)) := set_bytt b0 (tri_byt b0)
          have hgd : Pur.Good (cs.set i (tri n cs p i)) n := Good.of (by rw [List.length_set]; exact hl1) (by rw [List.length_set]; exact hl2) hn1 hn4 (fun c hc => by
            rcases List.mem_or_eq_of_mem_set hc with h | rfl
            · exact HLC.out c h
            · exact htr)
          obtain ⟨A15, c15, rfl, k15, C15⟩ := g0.C (by rw [List.length_set]; omega)
          have E9 := Lib.hid (rencode_any w9 A15 c15 _ _ _ _ C15 k15 (renc_ok _ n hbt9 hgd))
          clear g0 gb k15 C15 R8 hu hfz HR7 HB8 HBR8 htr hbt9 hgd
          generalize w7.setCell _ _ = w8 at *
          go_wp2_with (fail)
          refine (E9.out).mono ?_
          rintro e wa ⟨v19, v20, rfl, _, ho20, _, hba⟩
          have HBA := Lib.hid (HB9.out.trans (hba.mono HB9.out.size))
          obtain ⟨A20, c20, rfl, k20, r20⟩ := ho20.form
          obtain ⟨bx, hbx⟩ : ∃ b, b = decide (tab n (wQ (cs.set i (tri n cs p i))) = q) := ⟨_, rfl⟩
          have QE := Lib.hid (sameb_any wa A20 c20 _ A2 c2 q r20 k20 (H2.out.below (HBR.out.trans (HBA.out.mono HBR.out.size))) k2 (by rw [tab_len]; exact hn4) bx hbx)
          have HPM : Hid (bx = true ↔ Pm n cs p q i) := Lib.hid (by rw [hbx, decide_eq_true_iff]; exact (pm_ref b0 b1 b2 HLQ.out hin).symm)
          clear ho20 hba k20 r20 hbx E9 HB9
          go_wp2_with (fail)
          refine (QE.out).mono ?_
          rintro e wb ⟨rfl, hbb⟩
          have HBB := Lib.hid (HBI.out.trans ((HBA.out.trans (hbb.mono HBA.out.size)).mono HBI.out.size))
          clear hbb QE HBA
          cases bx with
          | true =>
            have hpm := HPM.out.1 rfl
            have HL : Hid (Pur.Loc n cs p q ((i : Int), 0)) := Lib.hid (by
              by_cases hs : S0 n cs p
              · by_cases ht : T0 n cs q
                · exact absurd ⟨hs, ht⟩ HNB.out
                · exact absurd hpm (not_pm_s0 hs ht i)
              · by_cases ht : T0 n cs q
                · exact absurd hpm (not_pm_t0 b0 hs ht i)
                · exact .inr (.inr (.inr (.inl ⟨hs, ht, i, hin, hpm, HNO.out, rfl⟩))))
            clear hpm
            go_wp2_with (fail)
            refine bodyPost_ret (results_2 rfl _ _) rfl ?_
            exact ⟨_, rfl, HL.out, HB4.out.trans (HBB.out.mono HB4.out.size)⟩
          | false =>
            have HN2 : Hid (∀ j, j < i + 1 → ¬ Pm n cs p q j) := Lib.hid (fun j hj h => by
              rcases Nat.lt_or_ge j i with h1 | h1
              · exact HNO.out j h1 h
              · obtain rfl : j = i := by omega
                have := HPM.out.2 h
                cases this)
            go_wp2_with (fail)
            go_roundg ((II cs).length - (i + 1))
            case measure => have := HQ.out; omega
            case rel => exact ⟨i + 1, by omega, by go_num, rfl, HN2.out, HBB.out⟩
        · obtain rfl : i = (II cs).length := by omega
          have HAL : Hid (∀ j, j < cs.length → ¬ Pm n cs p q j) := Lib.hid (fun j hj => HNO.out j (by rw [II_len]; exact hj))
          have Q6 := Lib.hid (QY.out wr HBI.out)
          clear HNO hlt HQ
          go_wp2_with (fail)
          refine (Q6.out).mono ?_
          rintro e wa ⟨rfl, hba⟩
          have HBA := Lib.hid (HBI.out.trans (hba.mono HBI.out.size))
          clear hba Q6 HBI
          have ht : ¬ T0 n cs q := fun h => by have := HBT.out.2 h; cases this
          have HT := Lib.hid ht
          clear ht
          have Q7 := Lib.hid (QX.out wa HBA.out)
          go_wp2_with (fail)
          refine (Q7.out).mono ?_
          rintro e wb ⟨rfl, hbb⟩
          have HBB := Lib.hid (HBA.out.trans (hbb.mono HBA.out.size))
          clear hbb Q7 HBA
          have HL : Hid (Pur.Loc n cs p q (((II cs).length : Int) + 1, 0)) := Lib.hid (by rw [II_len]; exact .inr (.inr (.inl ⟨HBS.out.1 (by trivial), HT.out, rfl⟩)))
          go_wp2_with (fail)
          refine bodyPost_ret (results_2 rfl _ _) rfl ?_
          exact ⟨_, by go_num, HL.out, HB4.out.trans (HBB.out.mono HB4.out.size)⟩
  | false =>
    have HB6 := HB5
    clear HB5
    have HNB : Hid (¬ (S0 n cs p ∧ T0 n cs q)) := Lib.hid (fun h => by have := HBS.out.2 h.1; cases this)
    go_wp2_with (fail)
    go_loopg [13] ((II cs).length) (fun q' v13 wr => ∃ i : Nat, i ≤ (II cs).length ∧ v13 = .int .i64 (i : Int) ∧ q' = (II cs).length - i ∧ (∀ j, j < i → ¬ Pm n cs p q j) ∧ Below w4.heap.size w4 wr)
    case atStart => exact ⟨0, by omega, rfl, rfl, fun j hj => by omega, HB6.out⟩
    case round =>
      obtain ⟨i, hi, rfl, hq, hno, hbi⟩ := hrel
      clear HB6
      have HQ := Lib.hid hq
      have HNO := Lib.hid hno
      have HBI := Lib.hid hbi
      have HBR := Lib.hid (HB4.out.trans (hbi.mono HB4.out.size))
      clear hq hno hbi
      by_cases hlt : i < (II cs).length
      · have hiI : (i : Int) < ((II cs).length : Int) := by omega
        have hin : i < cs.length := by rw [II_len] at hlt; exact hlt
        obtain ⟨rt, ct, w7, hr7, hct, hb7, ⟨u, hu⟩, hfz, hb8, hC8⟩ := TR.out wr HBR.out i hin
        have HR7 := Lib.hid hr7
        have HB8 := Lib.hid hb8
        have HBR8 := Lib.hid (HBR.out.trans (hb8.mono HBR.out.size))
        have R8 := Lib.hid (RC.out (w7.setCell ⟨rt, i, none⟩ (.slice none 0 0)) (some ⟨rt, 0, none⟩) ct i HBR8.out hin hC8 hct)
        clear hr7 hb7 hb8 hC8
        go_wp2_with (first
          | (at_builtin; refine wpList_append_ran rfl (.tmp 61) (.tmp 62) 22 rfl _ _ rfl rfl _ w7 HR7.out ?_))
        refine (R8.out).mono ?_
        rintro e w9 ⟨v15, v16, v17, ys, rfl, g0, _, _, _, _, gb⟩
        have HB9 := Lib.hid (HB8.out.trans (gb.mono HB8.out.size))
        simp only at g0
        have htr : (tri n cs p i).length = n := tab_len _ _
        have hbt9 : Bytt (cs.set i (tri n cs p i)) := set_bytt b0 (tri_byt b0)
        have hgd : Pur.Good (cs.set i (tri n cs p i)) n := Good.of (by rw [List.length_set]; exact hl1) (by rw [List.length_set]; exact hl2) hn1 hn4 (fun c hc => by
          rcases List.mem_or_eq_of_mem_set hc with h | rfl
          · exact HLC.out c h
          · exact htr)
        obtain ⟨A15, c15, rfl, k15, C15⟩ := g0.C (by rw [List.length_set]; omega)
        have E9 := Lib.hid (rencode_any w9 A15 c15 _ _ _ _ C15 k15 (renc_ok _ n hbt9 hgd))
        clear g0 gb k15 C15 R8 hu hfz HR7 HB8 HBR8 htr hbt9 hgd
        generalize w7.setCell _ _ = w8 at *
        go_wp2_with (fail)
        refine (E9.out).mono ?_
        rintro e wa ⟨v19, v20, rfl, _, ho20, _, hba⟩
        have HBA := Lib.hid (HB9.out.trans (hba.mono HB9.out.size))
        obtain ⟨A20, c20, rfl, k20, r20⟩ := ho20.form
        obtain ⟨bx, hbx⟩ : ∃ b, b = decide (tab n (wQ (cs.set i (tri n cs p i))) = q) := ⟨_, rfl⟩
        have QE := Lib.hid (sameb_any wa A20 c20 _ A2 c2 q r20 k20 (H2.out.below (HBR.out.trans (HBA.out.mono HBR.out.size))) k2 (by rw [tab_len]; exact hn4) bx hbx)
        have HPM : Hid (bx = true ↔ Pm n cs p q i) := Lib.hid (by rw [hbx, decide_eq_true_iff]; exact (pm_ref b0 b1 b2 HLQ.out hin).symm)
        clear ho20 hba k20 r20 hbx E9 HB9
        go_wp2_with (fail)
        refine (QE.out).mono ?_
        rintro e wb ⟨rfl, hbb⟩
        have HBB := Lib.hid (HBI.out.trans ((HBA.out.trans (hbb.mono HBA.out.size)).mono HBI.out.size))
        clear hbb QE HBA
        cases bx with
        | true =>
          have hpm := HPM.out.1 rfl
          have HL : Hid (Pur.Loc n cs p q ((i : Int), 0)) := Lib.hid (by
            by_cases hs : S0 n cs p
            · by_cases ht : T0 n cs q
              · exact absurd ⟨hs, ht⟩ HNB.out
              · exact absurd hpm (not_pm_s0 hs ht i)
            · by_cases ht : T0 n cs q
              · exact absurd hpm (not_pm_t0 b0 hs ht i)
              · exact .inr (.inr (.inr (.inl ⟨hs, ht, i, hin, hpm, HNO.out, rfl⟩))))
          clear hpm
          go_wp2_with (fail)
          refine bodyPost_ret (results_2 rfl _ _) rfl ?_
          exact ⟨_, rfl, HL.out, HB4.out.trans (HBB.out.mono HB4.out.size)⟩
        | false =>
          have HN2 : Hid (∀ j, j < i + 1 → ¬ Pm n cs p q j) := Lib.hid (fun j hj h => by
            rcases Nat.lt_or_ge j i with h1 | h1
            · exact HNO.out j h1 h
            · obtain rfl : j = i := by omega
              have := HPM.out.2 h
              cases this)
          go_wp2_with (fail)
          go_roundg ((II cs).length - (i + 1))
          case measure => have := HQ.out; omega
          case rel => exact ⟨i + 1, by omega, by go_num, rfl, HN2.out, HBB.out⟩
      · obtain rfl : i = (II cs).length := by omega
        have HAL : Hid (∀ j, j < cs.length → ¬ Pm n cs p q j) := Lib.hid (fun j hj => HNO.out j (by rw [II_len]; exact hj))
        have Q6 := Lib.hid (QY.out wr HBI.out)
        clear HNO hlt HQ
        go_wp2_with (fail)
        refine (Q6.out).mono ?_
        rintro e wa ⟨rfl, hba⟩
        have HBA := Lib.hid (HBI.out.trans (hba.mono HBI.out.size))
        clear hba Q6 HBI
        cases bt with
        | true =>
          have hs : ¬ S0 n cs p := fun h => HNB.out ⟨h, HBT.out.1 (by trivial)⟩
          have HL : Hid (Pur.Loc n cs p q (((II cs).length : Int), 0)) := Lib.hid (by rw [II_len]; exact .inr (.inl ⟨hs, HBT.out.1 (by trivial), rfl⟩))
          clear hs
          go_wp2_with (fail)
          refine bodyPost_ret (results_2 rfl _ _) rfl ?_
          exact ⟨_, rfl, HL.out, HB4.out.trans (HBA.out.mono HB4.out.size)⟩
        | false =>
          have ht : ¬ T0 n cs q := fun h => by have := HBT.out.2 h; cases this
          have HT := Lib.hid ht
          clear ht
          have Q7 := Lib.hid (QX.out wa HBA.out)
          go_wp2_with (fail)
          refine (Q7.out).mono ?_
          rintro e wb ⟨rfl, hbb⟩
          have HBB := Lib.hid (HBA.out.trans (hbb.mono HBA.out.size))
          clear hbb Q7 HBA
          have hs : ¬ S0 n cs p := fun h => by have := HBS.out.2 h; cases this
          have HL : Hid (Pur.Loc n cs p q (0, 10)) := Lib.hid (.inr (.inr (.inr (.inr ⟨hs, HT.out, HAL.out, rfl⟩))))
          clear hs
          go_wp2_with (fail)
          refine bodyPost_ret (results_2 rfl _ _) rfl ?_
          exact ⟨_, rfl, HL.out, HB4.out.trans (HBB.out.mono HB4.out.size)⟩
end Go.Proofs.Ythjodjfjeamilaa.Wd
