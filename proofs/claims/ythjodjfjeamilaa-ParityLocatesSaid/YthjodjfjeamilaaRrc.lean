/- The document's Recover, walked: the same as the program's. -/
import Derived.Test.YthjodjfjeamilaaRfa
set_option linter.unusedVariables false
set_option linter.unusedSimpArgs false
namespace Go.Proofs.Ythjodjfjeamilaa.Wd
open Go Go.RowKit Go.Proofs.YthjodjfjeamilaaW.PrintWords Go.Proofs.YthjodjfjeamilaaW.PrintLast Go.Proofs.YthjodjfjeamilaaW.PrintMore Go.Proofs.Ythjodjfjeamilaa.Bridge Go.Proofs.Ythjodjfjeamilaa.PA Go.Proofs.Ythjodjfjeamilaa.PB Go.Proofs.Ythjodjfjeamilaa.BrPA Go.Proofs.Ythjodjfjeamilaa.Pur
set_option maxRecDepth 100000 in
set_option maxHeartbeats 8000000 in
theorem rrecover_bad (w : World) (A0 : Option Addr) (c0 : Nat) (cs : List (List Nat)) (A1 : Option Addr) (c1 : Nat) (p : List Nat) (A2 : Option Addr) (c2 : Nat) (q : List Nat) (h0 : Kd.C (Kd.slice 5 (Kd.int .u8)) w A0 (II cs).length (II cs)) (k0 : (II cs).length ≤ c0) (h1 : RdB w A1 p) (k1 : (I p).length ≤ c1) (h2 : RdB w A2 q) (k2 : (I q).length ≤ c2)
    (hn : cs.length + 2 < 5864062014805) (hcl : ∀ c ∈ cs ++ [p, q], c.length < 4611686018427387904) (n l : Nat) (b : Bool) (hb : b = decide (1 ≤ cs.length ∧ cs.length ≤ 30)) (hW : widR (lens (cs ++ [p, q])) 0 0 = (n, l)) (x : Int) (hbad : ((b = false ∨ n = 0) ∧ x = 1) ∨ (b = true ∧ n ≠ 0 ∧ 2 < l ∧ x = 8)) :
    Calls Try.prog 21 #[.slice A0 (II cs).length c0, .slice A1 (I p).length c1, .slice A2 (I q).length c2] w (RcvPost w ([], [], [], x)) := by
  have AH := Lib.hid (ahead_any w A0 c0 cs A1 c1 p A2 c2 q h0 k0 h1 k1 h2 k2 hn)
  have WD : Hid (∀ W A c, Kd.C (Kd.slice 5 (Kd.int .u8)) W A (II (cs ++ [p, q])).length (II (cs ++ [p, q])) → (II (cs ++ [p, q])).length ≤ c → Calls Try.prog 24 #[.slice A (II (cs ++ [p, q])).length c] W fun e w' => e = .returned (.tuple #[.int .i64 (n : Int), .int .i64 (l : Int)]) ∧ Below W.heap.size W w') := Lib.hid (fun W A c hC hc => by
    have h := rwidth_any W A c (cs ++ [p, q]) hC hc hcl (by simp; omega)
    rw [hW] at h
    exact h)
  have FT : Hid (∀ W, Below w.heap.size w W → Calls Try.prog 25 #[.slice A0 (II cs).length c0] W fun e w' => e = .returned (.bool b) ∧ Below W.heap.size W w') := Lib.hid (fun W hB => fits_any W A0 c0 cs (Kd.C_below h0 hB) k0 b hb)
  have hx := hbad
  clear hbad hb hW hn hcl h0 h1 h2
  go_enter Try.func21, Try.ntmps21
  go_wp2_with (fail)
  refine (AH.out).mono ?_
  rintro e w1 ⟨Aw, cw, rfl, hcw, hCw, hb1⟩
  have W2 := Lib.hid (WD.out w1 Aw cw hCw hcw)
  have HB1 := Lib.hid hb1
  clear hcw hCw hb1
  generalize (II (cs ++ [p, q])).length = L at *
  go_wp2_with (fail)
  refine (W2.out).mono ?_
  rintro e w2 ⟨rfl, hb2⟩
  have HB2 := Lib.hid (HB1.out.trans (hb2.mono HB1.out.size))
  have F2 := Lib.hid (FT.out w2 HB2.out)
  clear hb2 W2 AH WD HB1
  go_wp2_with (fail)
  refine (F2.out).mono ?_
  rintro e w3 ⟨rfl, hb3⟩
  have HB3 := Lib.hid (HB2.out.trans (hb3.mono HB2.out.size))
  clear hb3 F2 FT HB2
  rcases hx with ⟨hbn, rfl⟩ | ⟨rfl, hn0, hl2, rfl⟩
  · cases b with
    | false =>
      clear hbn
      go_wp2_with (fail)
      refine bodyPost_ret (results_4 rfl _ _) rfl ?_
      exact RcvPost.nil HB3.out rfl
    | true =>
      obtain rfl : n = 0 := by simpa using hbn
      clear hbn
      have e1 : (((0 : Nat) : Int) == 0) = true := rfl
      go_wp2_with (fail)
      refine bodyPost_ret (results_4 rfl _ _) rfl ?_
      exact RcvPost.nil HB3.out rfl
  · have e1 : ((n : Int) == 0) = false := bF (by omega)
    have e2 : decide ((2 : Int) < (l : Int)) = true := decide_eq_true (by omega)
    clear hn0 hl2
    go_wp2_with (fail)
    refine bodyPost_ret (results_4 rfl _ _) rfl ?_
    exact RcvPost.nil HB3.out rfl
set_option maxRecDepth 100000 in
set_option maxHeartbeats 16000000 in
theorem rrecover_good (w : World) (A0 : Option Addr) (c0 : Nat) (cs : List (List Nat)) (A1 : Option Addr) (c1 : Nat) (p : List Nat) (A2 : Option Addr) (c2 : Nat) (q : List Nat) (h0 : Kd.C (Kd.slice 5 (Kd.int .u8)) w A0 (II cs).length (II cs)) (k0 : (II cs).length ≤ c0) (h1 : RdB w A1 p) (k1 : (I p).length ≤ c1) (h2 : RdB w A2 q) (k2 : (I q).length ≤ c2)
    (b0 : Bytt cs) (b1 : Byt p) (b2 : Byt q) (n l : Nat) (hl1 : 1 ≤ cs.length) (hl2 : cs.length ≤ 30) (hs : Snd (lens (cs ++ [p, q])) n l) (hl : l ≤ 2) :
    Calls Try.prog 21 #[.slice A0 (II cs).length c0, .slice A1 (I p).length c1, .slice A2 (I q).length c2] w (RcvPost w (fill cs p q n, if p.length = 0 then tab n (wP (fill cs p q n)) else p, if q.length = 0 then tab n (wQ (fill cs p q n)) else q, 0)) := by
  have hn1 := hs.pos
  have hn4 := hs.lim
  have hlc : ∀ c ∈ cs, c.length = 0 ∨ c.length = n := fun c hc => hs.all _ (List.mem_map.2 ⟨c, List.mem_append_left _ hc, rfl⟩)
  have hlp : p.length = 0 ∨ p.length = n := hs.all _ (List.mem_map.2 ⟨p, by simp, rfl⟩)
  have hlq : q.length = 0 ∨ q.length = n := hs.all _ (List.mem_map.2 ⟨q, by simp, rfl⟩)
  have hcnt : (gone cs).length + (if p.length = 0 then 1 else 0) + (if q.length = 0 then 1 else 0) ≤ 2 := by
    rw [gone_count]
    have := hs.lost
    have e : lens (cs ++ [p, q]) = lens cs ++ [p.length, q.length] := by unfold lens; simp
    rw [e, List.count_append] at this
    have e2 : List.count 0 [p.length, q.length] = (if p.length = 0 then 1 else 0) + (if q.length = 0 then 1 else 0) := by
      by_cases hp0 : p.length = 0 <;> by_cases hq0 : q.length = 0 <;> simp [List.count_cons, hp0, hq0]
    omega
  have HGO := Lib.hid (fill_good (p := p) (q := q) hl1 hl2 hn1 hn4 hlc (by omega))
  generalize hF : fill cs p q n = F at *
  have HF := Lib.hid hF
  generalize hR : (F, (if p.length = 0 then tab n (wP F) else p), (if q.length = 0 then tab n (wQ F) else q), (0 : Int)) = R
  have HR := Lib.hid hR
  clear hF hR
  have hlens : ∀ c ∈ cs ++ [p, q], c.length < 4611686018427387904 := fun c hc => by rcases hs.all _ (List.mem_map.2 ⟨c, hc, rfl⟩) with h | h <;> omega
  have AH := Lib.hid (ahead_any w A0 c0 cs A1 c1 p A2 c2 q h0 k0 h1 k1 h2 k2 (by omega))
  have WD : Hid (∀ W A c, Kd.C (Kd.slice 5 (Kd.int .u8)) W A (II (cs ++ [p, q])).length (II (cs ++ [p, q])) → (II (cs ++ [p, q])).length ≤ c → Calls Try.prog 24 #[.slice A (II (cs ++ [p, q])).length c] W fun e w' => e = .returned (.tuple #[.int .i64 (n : Int), .int .i64 (l : Int)]) ∧ Below W.heap.size W w') := Lib.hid (fun W A c hC hc => by
    have h := rwidth_any W A c (cs ++ [p, q]) hC hc hlens (by simp; omega)
    rw [widR_eq hs] at h
    exact h)
  have FT : Hid (∀ W, Below w.heap.size w W → Calls Try.prog 25 #[.slice A0 (II cs).length c0] W fun e w' => e = .returned (.bool true) ∧ Below W.heap.size W w') := Lib.hid (fun W hB => fits_any W A0 c0 cs (Kd.C_below h0 hB) k0 true (by simp; omega))
  obtain ⟨ys0, hys0⟩ := cl_of h0
  have HY := Lib.hid hys0
  have H0 := Lib.hid h0
  have H1 := Lib.hid h1
  have H2 := Lib.hid h2
  have HLC := Lib.hid hlc
  have HCNT := Lib.hid hcnt
  have HLP := Lib.hid hlp
  have HLQ := Lib.hid hlq
  have HI0 : Hid (∀ i, i < cs.length → ∃ a A' c' ci, Hid (cs.getD i [] = ci) ∧ A0 = some a ∧ (I ci).length ≤ c' ∧ (∀ W, Below w.heap.size w W → W.cell? (a.add i) = some (.slice A' (I ci).length c') ∧ RdB W A' ci)) := Lib.hid (fun i hi => by
    have hyi : ys0[i]? = some (ys0[i]'(by rw [HY.out.ylen, II_len]; exact hi)) := List.getElem?_eq_getElem _
    have hci : (II cs)[i]? = some (I (cs.getD i [])) := by
      unfold II
      rw [List.getElem?_map, List.getElem?_eq_getElem hi, getD_of hi]; rfl
    obtain ⟨a, hA, hc⟩ := HY.out.addr hyi
    obtain ⟨A', c', he, h3, h4⟩ := HY.out.el i _ _ hci hyi
    rw [he] at hc
    refine ⟨a, A', c', _, Lib.hid rfl, hA, h3, fun W hW => ⟨?_, Kd.C_below h4 hW⟩⟩
    have hlt : (a.add i).block < w.heap.size := World.block_lt_of_cell? w _ hc
    rw [hW.cell hlt]
    exact hc)
  clear hys0 h0 h1 h2 hs hlc hlp hlq hcnt HY hlens
  have e1 : ((n : Int) == 0) = false := bF (by omega)
  have e2 : decide ((2 : Int) < (l : Int)) = false := decide_eq_false (by omega)
  have e63 : (II cs).length ≤ 9223372036854775807 := by rw [II_len]; omega
  go_enter Try.func21, Try.ntmps21
  go_wp2_with (fail)
  refine (AH.out).mono ?_
  rintro e w1 ⟨Aw, cw, rfl, hcw, hCw, hb1⟩
  have W2 := Lib.hid (WD.out w1 Aw cw hCw hcw)
  have HB1 := Lib.hid hb1
  clear hcw hCw hb1
  generalize (II (cs ++ [p, q])).length = L at *
  go_wp2_with (fail)
  refine (W2.out).mono ?_
  rintro e w2 ⟨rfl, hb2⟩
  have HB2 := Lib.hid (HB1.out.trans (hb2.mono HB1.out.size))
  have F2 := Lib.hid (FT.out w2 HB2.out)
  clear hb2 W2 AH WD HB1
  go_wp2_with (fail)
  refine (F2.out).mono ?_
  rintro e w3 ⟨rfl, hb3⟩
  have HB3 := Lib.hid (HB2.out.trans (hb3.mono HB2.out.size))
  clear hb3 F2 FT HB2
  go_wp2_with (fail)
  clear e1 e2
  go_loopg [12, 13, 14] (cs.length) (fun q' v12 v13 v14 wr => ∃ (i : Nat) (ys : List Value), i ≤ cs.length ∧ v14 = .int .i64 (i : Int) ∧ q' = cs.length - i ∧ Lp w wr cs i v13 ys v12)
  case atStart =>
    have B1 := balloc w3 (.cells #[] 3)
    have B2 := balloc (w3.alloc (.cells #[] 3)) (.cells #[] 24)
    have C1 := Cols.start (w3.alloc (.cells #[] 3)) w.heap.size (Nat.le_trans HB3.out.size B1.size)
    rw [show (w3.alloc (.cells #[] 3)).heap.size = w3.heap.size + 1 by simp] at C1
    exact ⟨0, [], by omega, rfl, rfl, ⟨by simpa using C1, own_below (OwnI.start w3 w.heap.size HB3.out.size) B2, HB3.out.trans ((B1.trans (B2.mono B1.size)).mono HB3.out.size)⟩⟩
  case round =>
    obtain ⟨i, ys, hi, rfl, hq, hlp⟩ := hrel
    clear HB3
    have HQ := Lib.hid hq
    have HLPs := Lib.hid hlp
    clear hq hlp
    by_cases hlt : i < cs.length
    · obtain ⟨a, A', c', ci, HCI, rfl, hc', hrd⟩ := HI0.out i hlt
      have HS1 : Hid (∀ W, Below w.heap.size w W → W.cell? (a.add i) = some (.slice A' (I ci).length c')) := Lib.hid (fun W hW => (hrd W hW).1)
      have HRB : Hid (∀ W, Below w.heap.size w W → RdB W A' ci) := Lib.hid (fun W hW => (hrd W hW).2)
      have HC' := Lib.hid hc'
      have hiI : (i : Int) < ((II cs).length : Int) := by rw [II_len]; omega
      have hiN : i < (II cs).length := by rw [II_len]; omega
      have hcn : ci.length = 0 ∨ ci.length = n := by rw [← HCI.out]; exact HLC.out _ (getD_mem hlt)
      have HCN := Lib.hid hcn
      have hcix : (I ci).length ≤ 9223372036854775807 := by rw [I_len]; omega
      clear hrd hc' hcn
      have hS := HLPs.out.below
      have HCD := Lib.hid HLPs.out.cols
      have HGD : Hid (OwnI wr w.heap.size u12 (goneTo cs i)) := Lib.hid HLPs.out.gone
      clear HLPs
      obtain ⟨vy, w4, hr4, ho4, hb4⟩ := copy_run wr A' c' ci (HRB.out wr hS) (by have := HCN.out; omega)
      have HR4 := Lib.hid hr4
      have hT2 := hS.trans (hb4.mono hS.size)
      have hfr : ∀ (j : Nat) z k, ys[j]? = some z → z.ownBlock = some k → vy.ownBlock ≠ some k := fun j z k hz hk h => by
        have h5 := (HCD.out.lt j z k hz hk).2
        have h6 := (ho4.lt k h).1
        omega
      obtain ⟨va, w5, hr5, hc5, hgr5⟩ := (HCD.out.below hb4).push (own_lower ho4 hS.size) hfr (Nat.le_trans hS.size hb4.size) (by rw [List.length_take]; omega)
      have hB5 := balloc w4 (.cells #[vy] 24)
      have hT3 := hT2.trans (hB5.mono hT2.size)
      have hg4 : OwnI w4 w.heap.size u12 (goneTo cs i) := own_below HGD.out hb4
      have hg5 : OwnI w5 w.heap.size u12 (goneTo cs i) := own_kept (own_below hg4 hB5) (Only.grown hgr5) (fun k hk hm => row_ne hg4 (HCD.out.below hb4).own (by decide) k hk (by simpa using hm))
      have hT4 : Below w.heap.size w w5 := Only.below hT3 (Only.grown hgr5) hT3.size (fun x hx => ((HCD.out.below hb4).own.lt x (by simpa using hx)).1)
      have HR5 := Lib.hid hr5
      have HC5 : Hid (Cols w5 w.heap.size va (ys ++ [vy]) (cs.take (i + 1))) := Lib.hid (by
        have e : cs.take (i + 1) = cs.take i ++ [ci] := by rw [List.take_add_one, List.getElem?_eq_getElem hlt, ← HCI.out, getD_of hlt]; rfl
        rw [e]; exact hc5)
      have HG5 := Lib.hid hg5
      obtain ⟨Ay, cy, rfl, _, _⟩ := ho4.form
      have HB5 := Lib.hid hT4
      have hcell : (wr.alloc (.cells #[] 5)).cell? (a.add i) = some (.slice A' (I ci).length c') := HS1.out _ (hS.trans ((balloc wr _).mono hS.size))
      have hcell5 := HS1.out _ hT4
      clear hr4 ho4 hb4 hfr hr5 hc5 hgr5 hB5 hg4 hg5 hT2 hT3 hT4 hS HCD HGD
      by_cases hz : ci.length = 0
      · have HGS : Hid (goneTo cs (i + 1) = goneTo cs i ++ [i]) := Lib.hid (by rw [goneTo_succ, if_pos (by rw [HCI.out]; exact hz)])
        obtain ⟨vg, w6, hr6, hg6, hgr6⟩ := HG5.out.push i HB5.out.size (by have := List.length_filter_le (fun j => (cs.getD j []).length == 0) (List.range i); unfold goneTo; simp at this ⊢; omega)
        have hB6 := balloc w5 (.cells #[.int .i64 (i : Int)] 3)
        have hc6 : Cols w6 w.heap.size va (ys ++ [_]) (cs.take (i + 1)) := ((HC5.out.below hB6).far (S := fun k => u12.ownBlock = some k) ⟨(Only.grown hgr6).size, fun k hk hn => (Only.grown hgr6).block k hk (fun hm => hn (by simpa using hm))⟩ (fun j y k hy hk hk2 => by
            have hjl : j < (cs.take (i + 1)).length := by have := (List.getElem?_eq_some_iff.1 hy).1; rw [HC5.out.len] at this; exact this
            exact row_ne (HC5.out.el j y _ hy (List.getElem?_eq_getElem hjl)) HG5.out (by decide) k hk hk2) (fun k hk hk2 => row_ne HC5.out.own HG5.out (by decide) k hk hk2))
        have HB6 := Lib.hid (Only.below (HB5.out.trans (hB6.mono HB5.out.size)) (Only.grown hgr6) (by have := HB5.out.size; simp; omega) (fun x hx => (HG5.out.lt x (by simpa using hx)).1))
        have HR6 := Lib.hid hr6
        have HC6 := Lib.hid hc6
        have HG6 := Lib.hid hg6
        clear hr6 hg6 hgr6 hB6 hc6 HB5 HC5 HG5
        have hq1 : (((I ci).length : Int) == 0) = true := bT (by rw [I_len]; omega)
        clear hz
        go_wp2_with (first
          | (at_builtin; refine wpList_append_ran rfl (.tmp 47) (.tmp 51) 24 rfl _ _ rfl rfl _ w4 HR4.out ?_)
          | (at_builtin; refine wpList_append_ran rfl (.tmp 46) (.tmp 53) 22 rfl _ _ rfl rfl va w5 HR5.out ?_)
          | (at_builtin; refine wpList_append_ran rfl (.tmp 61) (.tmp 63) 53 rfl _ _ rfl rfl vg w6 HR6.out ?_))
        go_roundg (cs.length - (i + 1))
        case measure => have := HQ.out; omega
        case rel => exact ⟨i + 1, _, by omega, by go_num, rfl, ⟨HC6.out, by rw [HGS.out]; exact HG6.out, HB6.out⟩⟩
      · have HGS : Hid (goneTo cs (i + 1) = goneTo cs i) := Lib.hid (by rw [goneTo_succ, if_neg (by rw [HCI.out]; exact hz)])
        have hq1 : (((I ci).length : Int) == 0) = false := bF (by rw [I_len]; omega)
        clear hz
        go_wp2_with (first
          | (at_builtin; refine wpList_append_ran rfl (.tmp 47) (.tmp 51) 24 rfl _ _ rfl rfl _ w4 HR4.out ?_)
          | (at_builtin; refine wpList_append_ran rfl (.tmp 46) (.tmp 53) 22 rfl _ _ rfl rfl va w5 HR5.out ?_))
        go_roundg (cs.length - (i + 1))
        case measure => have := HQ.out; omega
        case rel => exact ⟨i + 1, _, by omega, by go_num, rfl, ⟨HC5.out, by rw [HGS.out]; exact HG5.out, HB5.out⟩⟩
    · obtain rfl : cs.length = i := by omega
      have hc1 := HLPs.out.cols
      rw [List.take_length] at hc1
      have hg1 : OwnI wr w.heap.size u12 (gone cs) := HLPs.out.gone
      have HBO := Lib.hid HLPs.out.below
      have x1 : ¬ ((cs.length : Int) < ((II cs).length : Int)) := by rw [II_len]; omega
      have x2 : ¬ (cs.length < (II cs).length) := by rw [II_len]; omega
      clear HLPs hi hlt HI0 HQ
      have HG2 : Hid ((gone cs).length ≤ 2 ∧ (gone cs).Pairwise (· < ·) ∧ ∀ g ∈ gone cs, g < cs.length) := Lib.hid ⟨by have := HCNT.out; omega, gone_sorted cs, fun g hg => (goneTo_lt hg).1⟩
      have hfill0 : fill cs p q 0 = cs := by
        have hem : ∀ g ∈ gone cs, cs.getD g [] = [] := fun g hg => List.eq_nil_of_length_eq_zero (goneTo_lt hg).2
        have hset : ∀ g, g ∈ gone cs → cs.set g [] = cs := fun g hg => by
          have hl := (goneTo_lt hg).1
          have e := hem g hg
          rw [getD_of hl] at e
          conv => lhs; rw [← e]
          exact List.set_getElem_self hl
        have hg2 := HG2.out.1
        rcases hG : gone cs with _ | ⟨g, _ | ⟨h, _ | ⟨h', G⟩⟩⟩
        · exact fill_0 hG 0
        · rw [fill_1 hG]; exact hset g (by rw [hG]; simp)
        · rw [fill_2 hG]
          show (cs.set g []).set h [] = cs
          rw [hset g (by rw [hG]; simp), hset h (by rw [hG]; simp)]
        · rw [hG] at hg2; simp at hg2
      obtain ⟨Aa, ca, hea, _, _⟩ := own_form hc1.own
      subst hea
      obtain ⟨ra, rfl, _, _⟩ := own_addr hc1.own (by omega)
      have HRN : Hid (Rn w wr ra cs.length ca ys (fill cs p q 0) u12 (gone cs)) := Lib.hid ⟨by rw [hfill0]; exact hc1, hg1, HBO.out⟩
      clear hc1 hg1 hfill0 HBO
      generalize hG : gone cs = G at *
      have HGQ := Lib.hid hG
      clear hG
      go_wp2_with (fail)
      go_loopg [15] (n) (fun q' v15 wr => ∃ (k : Nat) (ys : List Value), k ≤ n ∧ v15 = .int .i64 (k : Int) ∧ q' = n - k ∧ Rn w wr ra cs.length ca ys (fill cs p q k) u12 G)
      case atStart => exact ⟨0, _, by omega, rfl, rfl, HRN.out⟩
      case round =>
        obtain ⟨k, ys2, hk, rfl, hq, hrn⟩ := hrel
        clear HRN
        have HQ := Lib.hid hq
        have HRN := Lib.hid hrn
        clear hq hrn
        clear x1 x2
        by_cases hkl : k < n
        · have hkI : (k : Int) < (n : Int) := by omega
          have HG3 := HG2.out
          rcases G with _ | ⟨g, _ | ⟨h, _ | ⟨h', G⟩⟩⟩
          · obtain ⟨Ag, cgg, rfl, _, _⟩ := own_form HRN.out.g
            simp only [List.length_nil] at *
            go_wp2_with (fail)
            go_roundg (n - (k + 1))
            case measure => have := HQ.out; omega
            case rel => exact ⟨k + 1, _, by omega, by go_num, rfl, by have h := HRN.out; rw [fill_0 HGQ.out] at h ⊢; exact h⟩
          · obtain ⟨Ag, cgg, hvg, _, _⟩ := own_form HRN.out.g
            obtain ⟨rg, hAg, _, _⟩ := own_addr (hvg ▸ HRN.out.g) (by simp)
            subst hAg
            have HVG := Lib.hid hvg
            simp only [List.length_cons, List.length_nil, Nat.zero_add] at hvg
            have hgm : g < cs.length := HG3.2.2 g (by simp)
            have hgI : (g : Int) < (cs.length : Int) := by omega
            obtain ⟨y, hy, hcy, hoy⟩ := HRN.out.col (g := g) (by rw [fill_len]; exact hgm)
            have HY := Lib.hid hy
            obtain ⟨Ay, cy, hye, _, _⟩ := hoy.form
            have hlk : ((fill cs p q k).getD g []).length = k := (fill_1s HGQ.out hgm k).2
            have HFS := Lib.hid (fill_1s (p := p) (q := q) HGQ.out hgm k).1
            have HON : Hid (∀ W, Below w.heap.size w W → Calls Try.prog 37 #[.slice A0 (II cs).length c0, .slice A1 (I p).length c1, .slice A2 (I q).length c2, .int .i64 (g : Int), .int .i64 (k : Int)] W fun e w' => e = .returned (.int .u8 ((f1 cs p q g k : Nat) : Int)) ∧ Below W.heap.size W w') := Lib.hid (fun W hB => one_any W A0 c0 cs A1 c1 p A2 c2 q (Kd.C_below H0.out hB) k0 (H1.out.below hB) k1 (H2.out.below hB) k2 g k _ (one_ev b0 b1 b2 hkl HLC.out HLP.out HLQ.out (fun h => by have hx := HCNT.out; rw [if_pos h.1, if_pos h.2] at hx; simp at hx) hl2))
            have hs0 : wr.drew.cell? ⟨rg, 0, none⟩ = some (.int .i64 (g : Int)) := HRN.out.gcell (j := 0) HVG.out rfl
            subst hvg
            clear hoy
            go_upto_region 18 with (fail)
            refine wp_region_held_drew (S := fun W => W.cell? ⟨rg, 0, none⟩ = some (.int .i64 (g : Int))) (by kernel_rfl) hs0 (fun hS => ?_)
            have HRD := Lib.hid (HRN.out.below (Below.refl wr.heap.size wr).drew)
            have hcd : wr.drew.cell? ⟨ra, g, none⟩ = some y := hcy
            clear hs0 hcy
            generalize hwd : wr.drew = wd at HRD hcd hS ⊢
            clear hwd HRN
            refine wpAnyH_take (i := 0) (v := ?_) rfl (by kernel_rfl) (by kernel_rfl) (by kernel_rfl) (fun _ _ _ h => h) (Or.inl ⟨by rfl, ?_⟩) hS ?_
            rotate_left
            · intro w' hSw; go_simp; try rfl
            try simp only [Act.put, List.getElem_toArray, List.getElem_cons_succ, List.getElem_cons_zero, List.setIfInBounds_toArray, List.set_cons_zero, List.set_cons_succ]
            refine wpAnyH_take (i := 1) (v := ?_) rfl (by kernel_rfl) (by kernel_rfl) (by kernel_rfl) (fun _ _ _ h => h) (Or.inl ⟨by rfl, ?_⟩) hS ?_
            rotate_left
            · intro w' hSw; go_simp; try rfl
            try simp only [Act.put, List.getElem_toArray, List.getElem_cons_succ, List.getElem_cons_zero, List.setIfInBounds_toArray, List.set_cons_zero, List.set_cons_succ]
            refine wpAnyH_take (i := 2) (v := ?_) rfl (by kernel_rfl) (by kernel_rfl) (by kernel_rfl) (fun _ _ _ h => h) (Or.inl ⟨by rfl, ?_⟩) hS ?_
            rotate_left
            · intro w' hSw; go_simp; try rfl
            try simp only [Act.put, List.getElem_toArray, List.getElem_cons_succ, List.getElem_cons_zero, List.setIfInBounds_toArray, List.set_cons_zero, List.set_cons_succ]
            refine wpAnyH_take (i := 3) (v := ?_) rfl (by kernel_rfl) (by kernel_rfl) (by kernel_rfl) (fun _ _ _ h => h) (Or.inl ⟨by rfl, ?_⟩) hS ?_
            rotate_left
            · intro w' hSw; have s1 := hSw; go_simp; try rfl
            try simp only [Act.put, List.getElem_toArray, List.getElem_cons_succ, List.getElem_cons_zero, List.setIfInBounds_toArray, List.set_cons_zero, List.set_cons_succ]
            refine wpAnyH_take (i := 4) (v := ?_) rfl (by kernel_rfl) (by kernel_rfl) (by kernel_rfl) (fun _ _ _ h => h) (Or.inl ⟨by rfl, ?_⟩) hS ?_
            rotate_left
            · intro w' hSw; go_simp; try rfl
            try simp only [Act.put, List.getElem_toArray, List.getElem_cons_succ, List.getElem_cons_zero, List.setIfInBounds_toArray, List.set_cons_zero, List.set_cons_succ]
            refine wpAnyH_take (i := 5) (v := ?_) rfl (by kernel_rfl) (by kernel_rfl) (by kernel_rfl) (fun _ _ _ h => h) (Or.inl ⟨by rfl, ?_⟩) hS ?_
            rotate_left
            · intro w' hSw; go_simp; try rfl
            try simp only [Act.put, List.getElem_toArray, List.getElem_cons_succ, List.getElem_cons_zero, List.setIfInBounds_toArray, List.set_cons_zero, List.set_cons_succ]
            refine wpAnyH_take (i := 6) (v := ?_) rfl (by kernel_rfl) (by kernel_rfl) (by kernel_rfl) (fun _ _ _ h => h) (Or.inl ⟨by rfl, ?_⟩) hS ?_
            rotate_left
            · intro w' hSw; go_simp; try rfl
            try simp only [Act.put, List.getElem_toArray, List.getElem_cons_succ, List.getElem_cons_zero, List.setIfInBounds_toArray, List.set_cons_zero, List.set_cons_succ]
            refine wpAnyH_take (i := 7) (v := ?_) rfl (by kernel_rfl) (by kernel_rfl) (by kernel_rfl) (fun _ _ _ h => h) (Or.inl ⟨by rfl, ?_⟩) hS ?_
            rotate_left
            · intro w' hSw; have s1 := hSw; go_simp; try rfl
            try simp only [Act.put, List.getElem_toArray, List.getElem_cons_succ, List.getElem_cons_zero, List.setIfInBounds_toArray, List.set_cons_zero, List.set_cons_succ]
            refine wpAnyH_take (i := 8) (v := ?_) rfl (by kernel_rfl) (by kernel_rfl) (by kernel_rfl) (fun _ _ _ h => h) (Or.inl ⟨by rfl, ?_⟩) hS ?_
            rotate_left
            · intro w' hSw; go_simp; try rfl
            try simp only [Act.put, List.getElem_toArray, List.getElem_cons_succ, List.getElem_cons_zero, List.setIfInBounds_toArray, List.set_cons_zero, List.set_cons_succ]
            refine wpAnyH_take (i := 10) (v := ?_) rfl (by kernel_rfl) (by kernel_rfl) (by kernel_rfl) (fun _ _ _ h => h) (Or.inl ⟨by rfl, ?_⟩) hS ?_
            rotate_left
            · intro w' hSw; go_simp; try rfl
            try simp only [Act.put, List.getElem_toArray, List.getElem_cons_succ, List.getElem_cons_zero, List.setIfInBounds_toArray, List.set_cons_zero, List.set_cons_succ]
            refine wpAnyH_take (i := 11) (v := ?_) rfl (by kernel_rfl) (by kernel_rfl) (by kernel_rfl) (fun _ _ _ h => h) (Or.inl ⟨by rfl, ?_⟩) hS ?_
            rotate_left
            · intro w' hSw; go_simp; try rfl
            try simp only [Act.put, List.getElem_toArray, List.getElem_cons_succ, List.getElem_cons_zero, List.setIfInBounds_toArray, List.set_cons_zero, List.set_cons_succ]
            refine wpAnyH_take (i := 12) (v := ?_) rfl (by kernel_rfl) (by kernel_rfl) (by kernel_rfl) (fun _ _ _ h => h) (Or.inl ⟨by rfl, ?_⟩) hS ?_
            rotate_left
            · intro w' hSw; go_simp; try rfl
            try simp only [Act.put, List.getElem_toArray, List.getElem_cons_succ, List.getElem_cons_zero, List.setIfInBounds_toArray, List.set_cons_zero, List.set_cons_succ]
            refine wpAnyH_take (i := 13) (v := ?_) rfl (by kernel_rfl) (by kernel_rfl) (by kernel_rfl) (fun _ _ _ h => h) (Or.inl ⟨by rfl, ?_⟩) hS ?_
            rotate_left
            · intro w' hSw; go_simp; try rfl
            try simp only [Act.put, List.getElem_toArray, List.getElem_cons_succ, List.getElem_cons_zero, List.setIfInBounds_toArray, List.set_cons_zero, List.set_cons_succ]
            refine wpAnyH_take (i := 14) (v := ?_) rfl (by kernel_rfl) (by kernel_rfl) (by kernel_rfl) (fun _ _ _ h => h) (Or.inl ⟨by rfl, ?_⟩) hS ?_
            rotate_left
            · intro w' hSw; go_simp; try rfl
            try simp only [Act.put, List.getElem_toArray, List.getElem_cons_succ, List.getElem_cons_zero, List.setIfInBounds_toArray, List.set_cons_zero, List.set_cons_succ]
            refine wpAnyH_take (i := 15) (v := ?_) rfl (by kernel_rfl) (by kernel_rfl) (by kernel_rfl) (fun _ _ _ h => h) (Or.inl ⟨by rfl, ?_⟩) hS ?_
            rotate_left
            · intro w' hSw; have s1 := hSw; go_simp; try rfl
            try simp only [Act.put, List.getElem_toArray, List.getElem_cons_succ, List.getElem_cons_zero, List.setIfInBounds_toArray, List.set_cons_zero, List.set_cons_succ]
            refine wpAnyH_take (i := 16) (v := ?_) rfl (by kernel_rfl) (by kernel_rfl) (by kernel_rfl) (fun _ _ _ h => h) (Or.inl ⟨by rfl, ?_⟩) hS ?_
            rotate_left
            · intro w' hSw; go_simp; try rfl
            try simp only [Act.put, List.getElem_toArray, List.getElem_cons_succ, List.getElem_cons_zero, List.setIfInBounds_toArray, List.set_cons_zero, List.set_cons_succ]
            subst hye
            refine wpAnyH_ready (rs := [9, 17]) (by kernel_rfl) (by simp) ?_
            refine AllReadyH.cons rfl (fun K hK => ?_) ?_
            · go_simp
              refine hK.out _ _ hS (fun hU => ?_)
              clear hK K hU
              try simp only [Act.put, List.getElem_toArray, List.getElem_cons_succ, List.getElem_cons_zero, List.setIfInBounds_toArray, List.set_cons_zero, List.set_cons_succ]
              refine wpAnyH_ready (rs := [17]) (by kernel_rfl) (by simp) ?_
              refine AllReadyH.cons rfl (fun K hK => ?_) AllReadyH.nil
              go_simp
              refine (HON.out _ HRD.out.b).mono ?_
              rintro e wa ⟨rfl, hba⟩
              have HRA := Lib.hid (HRD.out.below hba)
              have hca := cell_below hcd hba
              have hT := cell_below hS hba
              clear hcd hba
              go_wp2_with (fail)
              refine hK.out _ _ hT (fun hU => ?_)
              clear hK K hU hS
              have hS := hT
              clear hT
              try simp only [Act.put, List.getElem_toArray, List.getElem_cons_succ, List.getElem_cons_zero, List.setIfInBounds_toArray, List.set_cons_zero, List.set_cons_succ]
              refine wpAnyH_ready (rs := [18]) (by kernel_rfl) (by simp) ?_
              refine AllReadyH.cons rfl (fun K hK => ?_) AllReadyH.nil
              go_simp
              have hba := balloc wa (.cells #[.int .u8 ((f1 cs p q g k : Nat) : Int)] 5)
              have hcb := cell_below hca hba
              have hT := cell_below hS hba
              clear hba
              refine hK.out _ _ hT (fun hU => ?_)
              clear hK K hU hS
              have hS := hT
              clear hT
              try simp only [Act.put, List.getElem_toArray, List.getElem_cons_succ, List.getElem_cons_zero, List.setIfInBounds_toArray, List.set_cons_zero, List.set_cons_succ]
              obtain ⟨y', w1, hr1, hmid⟩ := HRA.out.push (by rw [fill_len]; exact hgm) HY.out (f1 cs p q g k) (by rw [hlk]; omega)
              have HR1 := Lib.hid hr1
              have HMD := Lib.hid hmid
              clear hr1 hmid
              have hT := HMD.out.gl _ _ 0 _ HVG.out rfl
              refine wpAnyH_ready (rs := [19]) (by kernel_rfl) (by simp) ?_
              refine AllReadyH.cons rfl (fun K hK => ?_) AllReadyH.nil
              rw [if_pos (by rfl)]
              refine wp_append_ran (.tmp 82) (.tmp 91) 24 rfl _ _ (by rfl) (by rfl) y' w1 (by exact HR1.out) ?_
              refine hK.out _ _ hT (fun hU => ?_)
              clear hK K hU hS
              have hS := hT
              clear hT
              try simp only [Act.put, List.getElem_toArray, List.getElem_cons_succ, List.getElem_cons_zero, List.setIfInBounds_toArray, List.set_cons_zero, List.set_cons_succ]
              refine wpAnyH_take (i := 20) (v := ?_) rfl (by kernel_rfl) (by kernel_rfl) (by kernel_rfl) (fun _ _ _ h => h) (Or.inl ⟨by rfl, ?_⟩) hS ?_
              rotate_left
              · intro w' hSw; go_simp; try rfl
              try simp only [Act.put, List.getElem_toArray, List.getElem_cons_succ, List.getElem_cons_zero, List.setIfInBounds_toArray, List.set_cons_zero, List.set_cons_succ]
              obtain ⟨u8, hcx⟩ := HMD.out.cell
              have hfx := HMD.out.frozen
              have hT := HMD.out.gs _ _ 0 _ HVG.out rfl
              have HRZ := Lib.hid HMD.out.rn
              have hy1 : ∃ A m c, y' = .slice A m c := by
                have h := HMD.out.rn.c.el g y' _ (by rw [List.getElem?_set, if_pos rfl, if_pos (by rw [HRA.out.c.len, fill_len]; exact hgm)]) (by rw [List.getElem?_set, if_pos rfl, if_pos (by rw [fill_len]; exact hgm)])
                obtain ⟨A, c, he, _, _⟩ := own_form h
                exact ⟨A, _, c, he⟩
              obtain ⟨Az, mz, cz, rfl⟩ := hy1
              refine wpAnyH_ready (rs := [21]) (by kernel_rfl) (by simp) ?_
              refine AllReadyH.cons rfl (fun K hK => ?_) AllReadyH.nil
              go_simp
              refine hK.out _ _ hT (fun hU => ?_)
              clear hK K hU hS hcx hfx u8 HMD
              have hS := hT
              clear hT
              generalize w1.setCell _ _ = w2 at *
              try simp only [Act.put, List.getElem_toArray, List.getElem_cons_succ, List.getElem_cons_zero, List.setIfInBounds_toArray, List.set_cons_zero, List.set_cons_succ]
              refine wpAnyH_done (by kernel_rfl) ?_ _
              go_wp2_with (fail)
              go_roundg (n - (k + 1))
              case measure => have := HQ.out; omega
              case rel => exact ⟨k + 1, _, by omega, by go_num, rfl, by rw [← HFS.out]; exact HRZ.out⟩
            refine AllReadyH.cons rfl (fun K hK => ?_) AllReadyH.nil
            go_simp
            refine (HON.out _ HRD.out.b).mono ?_
            rintro e wa ⟨rfl, hba⟩
            have HRA := Lib.hid (HRD.out.below hba)
            have hca := cell_below hcd hba
            have hT := cell_below hS hba
            clear hcd hba
            go_wp2_with (fail)
            refine hK.out _ _ hT (fun hU => ?_)
            clear hK K hU hS
            have hS := hT
            clear hT
            try simp only [Act.put, List.getElem_toArray, List.getElem_cons_succ, List.getElem_cons_zero, List.setIfInBounds_toArray, List.set_cons_zero, List.set_cons_succ]
            refine wpAnyH_ready (rs := [9, 18]) (by kernel_rfl) (by simp) ?_
            refine AllReadyH.cons rfl (fun K hK => ?_) ?_
            · go_simp
              refine hK.out _ _ hS (fun hU => ?_)
              clear hK K hU
              try simp only [Act.put, List.getElem_toArray, List.getElem_cons_succ, List.getElem_cons_zero, List.setIfInBounds_toArray, List.set_cons_zero, List.set_cons_succ]
              refine wpAnyH_ready (rs := [18]) (by kernel_rfl) (by simp) ?_
              refine AllReadyH.cons rfl (fun K hK => ?_) AllReadyH.nil
              go_simp
              have hba := balloc wa (.cells #[.int .u8 ((f1 cs p q g k : Nat) : Int)] 5)
              have hcb := cell_below hca hba
              have hT := cell_below hS hba
              clear hba
              refine hK.out _ _ hT (fun hU => ?_)
              clear hK K hU hS
              have hS := hT
              clear hT
              try simp only [Act.put, List.getElem_toArray, List.getElem_cons_succ, List.getElem_cons_zero, List.setIfInBounds_toArray, List.set_cons_zero, List.set_cons_succ]
              obtain ⟨y', w1, hr1, hmid⟩ := HRA.out.push (by rw [fill_len]; exact hgm) HY.out (f1 cs p q g k) (by rw [hlk]; omega)
              have HR1 := Lib.hid hr1
              have HMD := Lib.hid hmid
              clear hr1 hmid
              have hT := HMD.out.gl _ _ 0 _ HVG.out rfl
              refine wpAnyH_ready (rs := [19]) (by kernel_rfl) (by simp) ?_
              refine AllReadyH.cons rfl (fun K hK => ?_) AllReadyH.nil
              rw [if_pos (by rfl)]
              refine wp_append_ran (.tmp 82) (.tmp 91) 24 rfl _ _ (by rfl) (by rfl) y' w1 (by exact HR1.out) ?_
              refine hK.out _ _ hT (fun hU => ?_)
              clear hK K hU hS
              have hS := hT
              clear hT
              try simp only [Act.put, List.getElem_toArray, List.getElem_cons_succ, List.getElem_cons_zero, List.setIfInBounds_toArray, List.set_cons_zero, List.set_cons_succ]
              refine wpAnyH_take (i := 20) (v := ?_) rfl (by kernel_rfl) (by kernel_rfl) (by kernel_rfl) (fun _ _ _ h => h) (Or.inl ⟨by rfl, ?_⟩) hS ?_
              rotate_left
              · intro w' hSw; go_simp; try rfl
              try simp only [Act.put, List.getElem_toArray, List.getElem_cons_succ, List.getElem_cons_zero, List.setIfInBounds_toArray, List.set_cons_zero, List.set_cons_succ]
              obtain ⟨u8, hcx⟩ := HMD.out.cell
              have hfx := HMD.out.frozen
              have hT := HMD.out.gs _ _ 0 _ HVG.out rfl
              have HRZ := Lib.hid HMD.out.rn
              have hy1 : ∃ A m c, y' = .slice A m c := by
                have h := HMD.out.rn.c.el g y' _ (by rw [List.getElem?_set, if_pos rfl, if_pos (by rw [HRA.out.c.len, fill_len]; exact hgm)]) (by rw [List.getElem?_set, if_pos rfl, if_pos (by rw [fill_len]; exact hgm)])
                obtain ⟨A, c, he, _, _⟩ := own_form h
                exact ⟨A, _, c, he⟩
              obtain ⟨Az, mz, cz, rfl⟩ := hy1
              refine wpAnyH_ready (rs := [21]) (by kernel_rfl) (by simp) ?_
              refine AllReadyH.cons rfl (fun K hK => ?_) AllReadyH.nil
              go_simp
              refine hK.out _ _ hT (fun hU => ?_)
              clear hK K hU hS hcx hfx u8 HMD
              have hS := hT
              clear hT
              generalize w1.setCell _ _ = w2 at *
              try simp only [Act.put, List.getElem_toArray, List.getElem_cons_succ, List.getElem_cons_zero, List.setIfInBounds_toArray, List.set_cons_zero, List.set_cons_succ]
              refine wpAnyH_done (by kernel_rfl) ?_ _
              go_wp2_with (fail)
              go_roundg (n - (k + 1))
              case measure => have := HQ.out; omega
              case rel => exact ⟨k + 1, _, by omega, by go_num, rfl, by rw [← HFS.out]; exact HRZ.out⟩
            refine AllReadyH.cons rfl (fun K hK => ?_) AllReadyH.nil
            go_simp
            have hba := balloc wa (.cells #[.int .u8 ((f1 cs p q g k : Nat) : Int)] 5)
            have hcb := cell_below hca hba
            have hT := cell_below hS hba
            clear hba
            refine hK.out _ _ hT (fun hU => ?_)
            clear hK K hU hS
            have hS := hT
            clear hT
            try simp only [Act.put, List.getElem_toArray, List.getElem_cons_succ, List.getElem_cons_zero, List.setIfInBounds_toArray, List.set_cons_zero, List.set_cons_succ]
            refine wpAnyH_ready (rs := [9]) (by kernel_rfl) (by simp) ?_
            refine AllReadyH.cons rfl (fun K hK => ?_) AllReadyH.nil
            go_simp
            refine hK.out _ _ hS (fun hU => ?_)
            clear hK K hU
            try simp only [Act.put, List.getElem_toArray, List.getElem_cons_succ, List.getElem_cons_zero, List.setIfInBounds_toArray, List.set_cons_zero, List.set_cons_succ]
            obtain ⟨y', w1, hr1, hmid⟩ := HRA.out.push (by rw [fill_len]; exact hgm) HY.out (f1 cs p q g k) (by rw [hlk]; omega)
            have HR1 := Lib.hid hr1
            have HMD := Lib.hid hmid
            clear hr1 hmid
            have hT := HMD.out.gl _ _ 0 _ HVG.out rfl
            refine wpAnyH_ready (rs := [19]) (by kernel_rfl) (by simp) ?_
            refine AllReadyH.cons rfl (fun K hK => ?_) AllReadyH.nil
            rw [if_pos (by rfl)]
            refine wp_append_ran (.tmp 82) (.tmp 91) 24 rfl _ _ (by rfl) (by rfl) y' w1 (by exact HR1.out) ?_
            refine hK.out _ _ hT (fun hU => ?_)
            clear hK K hU hS
            have hS := hT
            clear hT
            try simp only [Act.put, List.getElem_toArray, List.getElem_cons_succ, List.getElem_cons_zero, List.setIfInBounds_toArray, List.set_cons_zero, List.set_cons_succ]
            refine wpAnyH_take (i := 20) (v := ?_) rfl (by kernel_rfl) (by kernel_rfl) (by kernel_rfl) (fun _ _ _ h => h) (Or.inl ⟨by rfl, ?_⟩) hS ?_
            rotate_left
            · intro w' hSw; go_simp; try rfl
            try simp only [Act.put, List.getElem_toArray, List.getElem_cons_succ, List.getElem_cons_zero, List.setIfInBounds_toArray, List.set_cons_zero, List.set_cons_succ]
            obtain ⟨u8, hcx⟩ := HMD.out.cell
            have hfx := HMD.out.frozen
            have hT := HMD.out.gs _ _ 0 _ HVG.out rfl
            have HRZ := Lib.hid HMD.out.rn
            have hy1 : ∃ A m c, y' = .slice A m c := by
              have h := HMD.out.rn.c.el g y' _ (by rw [List.getElem?_set, if_pos rfl, if_pos (by rw [HRA.out.c.len, fill_len]; exact hgm)]) (by rw [List.getElem?_set, if_pos rfl, if_pos (by rw [fill_len]; exact hgm)])
              obtain ⟨A, c, he, _, _⟩ := own_form h
              exact ⟨A, _, c, he⟩
            obtain ⟨Az, mz, cz, rfl⟩ := hy1
            refine wpAnyH_ready (rs := [21]) (by kernel_rfl) (by simp) ?_
            refine AllReadyH.cons rfl (fun K hK => ?_) AllReadyH.nil
            go_simp
            refine hK.out _ _ hT (fun hU => ?_)
            clear hK K hU hS hcx hfx u8 HMD
            have hS := hT
            clear hT
            generalize w1.setCell _ _ = w2 at *
            try simp only [Act.put, List.getElem_toArray, List.getElem_cons_succ, List.getElem_cons_zero, List.setIfInBounds_toArray, List.set_cons_zero, List.set_cons_succ]
            refine wpAnyH_done (by kernel_rfl) ?_ _
            go_wp2_with (fail)
            go_roundg (n - (k + 1))
            case measure => have := HQ.out; omega
            case rel => exact ⟨k + 1, _, by omega, by go_num, rfl, by rw [← HFS.out]; exact HRZ.out⟩
          · obtain ⟨Ag, cgg, hvg, _, _⟩ := own_form HRN.out.g
            obtain ⟨rg, hAg, _, _⟩ := own_addr (hvg ▸ HRN.out.g) (by simp)
            subst hAg
            have HVG := Lib.hid hvg
            simp only [List.length_cons, List.length_nil, Nat.zero_add, Nat.reduceAdd] at hvg
            have hgm : g < cs.length := HG3.2.2 g (by simp)
            have hhm : h < cs.length := HG3.2.2 h (by simp)
            have hgh : g < h := (List.pairwise_cons.1 HG3.2.1).1 h (by simp)
            have HGH := Lib.hid hgh
            have hgI : (g : Int) < (cs.length : Int) := by omega
            have hhI : (h : Int) < (cs.length : Int) := by omega
            have hpq : p.length = n ∧ q.length = n := by
              have hx := HCNT.out
              simp only [List.length_cons, List.length_nil] at hx
              constructor
              · rcases HLP.out with h' | h'
                · rw [if_pos h'] at hx; omega
                · exact h'
              · rcases HLQ.out with h' | h'
                · rw [if_pos h'] at hx; omega
                · exact h'
            have HTW : Hid (Calls Try.prog 38 #[.slice A0 (II cs).length c0, .slice A1 (I p).length c1, .slice A2 (I q).length c2, .int .i64 (g : Int), .int .i64 (h : Int), .int .i64 (k : Int)] wr.drew fun e w' => e = .returned (.tuple #[.int .u8 ((fX cs p q g h k : Nat) : Int), .int .u8 ((fY cs p q g h k : Nat) : Int)]) ∧ Below wr.drew.heap.size wr.drew w') := Lib.hid (by
              have hB := HRN.out.b.drew
              exact two_any wr.drew A0 c0 cs A1 c1 p A2 c2 q (Kd.C_below H0.out hB) k0 (H1.out.below hB) k1 (H2.out.below hB) k2 g h k _ _ (two_ev' b0 b1 b2 hkl HLC.out hpq.1 hpq.2 hl2 hgm hhm (by omega)))
            have HRD := Lib.hid (HRN.out.below (Below.refl wr.heap.size wr).drew)
            have hs0 : wr.drew.cell? ⟨rg, 0, none⟩ = some (.int .i64 (g : Int)) ∧ wr.drew.cell? ⟨rg, 1, none⟩ = some (.int .i64 (h : Int)) := ⟨HRN.out.gcell (j := 0) HVG.out rfl, HRN.out.gcell (j := 1) HVG.out rfl⟩
            subst hvg
            clear hpq hgh
            go_upto_region 20 with (fail)
            refine wp_region_held_drew (S := fun W => W.cell? ⟨rg, 0, none⟩ = some (.int .i64 (g : Int)) ∧ W.cell? ⟨rg, 1, none⟩ = some (.int .i64 (h : Int))) (by kernel_rfl) hs0 (fun hS => ?_)
            clear hs0
            generalize hwd : wr.drew = wd at HRD HTW hS ⊢
            clear hwd HRN
            refine wpAnyH_take (i := 0) (v := ?_) rfl (by kernel_rfl) (by kernel_rfl) (by kernel_rfl) (fun _ _ _ h => h) (Or.inl ⟨by rfl, ?_⟩) hS ?_
            rotate_left
            · intro w' hSw; go_simp; try rfl
            try simp only [Act.put, List.getElem_toArray, List.getElem_cons_succ, List.getElem_cons_zero, List.setIfInBounds_toArray, List.set_cons_zero, List.set_cons_succ]
            refine wpAnyH_take (i := 1) (v := ?_) rfl (by kernel_rfl) (by kernel_rfl) (by kernel_rfl) (fun _ _ _ h => h) (Or.inl ⟨by rfl, ?_⟩) hS ?_
            rotate_left
            · intro w' hSw; go_simp; try rfl
            try simp only [Act.put, List.getElem_toArray, List.getElem_cons_succ, List.getElem_cons_zero, List.setIfInBounds_toArray, List.set_cons_zero, List.set_cons_succ]
            refine wpAnyH_take (i := 2) (v := ?_) rfl (by kernel_rfl) (by kernel_rfl) (by kernel_rfl) (fun _ _ _ h => h) (Or.inl ⟨by rfl, ?_⟩) hS ?_
            rotate_left
            · intro w' hSw; go_simp; try rfl
            try simp only [Act.put, List.getElem_toArray, List.getElem_cons_succ, List.getElem_cons_zero, List.setIfInBounds_toArray, List.set_cons_zero, List.set_cons_succ]
            refine wpAnyH_take (i := 3) (v := ?_) rfl (by kernel_rfl) (by kernel_rfl) (by kernel_rfl) (fun _ _ _ h => h) (Or.inl ⟨by rfl, ?_⟩) hS ?_
            rotate_left
            · intro w' hSw; go_simp; try rfl
            try simp only [Act.put, List.getElem_toArray, List.getElem_cons_succ, List.getElem_cons_zero, List.setIfInBounds_toArray, List.set_cons_zero, List.set_cons_succ]
            refine wpAnyH_take (i := 4) (v := ?_) rfl (by kernel_rfl) (by kernel_rfl) (by kernel_rfl) (fun _ _ _ h => h) (Or.inl ⟨by rfl, ?_⟩) hS ?_
            rotate_left
            · intro w' hSw; go_simp; try rfl
            try simp only [Act.put, List.getElem_toArray, List.getElem_cons_succ, List.getElem_cons_zero, List.setIfInBounds_toArray, List.set_cons_zero, List.set_cons_succ]
            refine wpAnyH_take (i := 5) (v := ?_) rfl (by kernel_rfl) (by kernel_rfl) (by kernel_rfl) (fun _ _ _ h => h) (Or.inl ⟨by rfl, ?_⟩) hS ?_
            rotate_left
            · intro w' hSw; obtain ⟨s1, s2⟩ := hSw; go_simp; try rfl
            try simp only [Act.put, List.getElem_toArray, List.getElem_cons_succ, List.getElem_cons_zero, List.setIfInBounds_toArray, List.set_cons_zero, List.set_cons_succ]
            refine wpAnyH_take (i := 6) (v := ?_) rfl (by kernel_rfl) (by kernel_rfl) (by kernel_rfl) (fun _ _ _ h => h) (Or.inl ⟨by rfl, ?_⟩) hS ?_
            rotate_left
            · intro w' hSw; go_simp; try rfl
            try simp only [Act.put, List.getElem_toArray, List.getElem_cons_succ, List.getElem_cons_zero, List.setIfInBounds_toArray, List.set_cons_zero, List.set_cons_succ]
            refine wpAnyH_take (i := 7) (v := ?_) rfl (by kernel_rfl) (by kernel_rfl) (by kernel_rfl) (fun _ _ _ h => h) (Or.inl ⟨by rfl, ?_⟩) hS ?_
            rotate_left
            · intro w' hSw; go_simp; try rfl
            try simp only [Act.put, List.getElem_toArray, List.getElem_cons_succ, List.getElem_cons_zero, List.setIfInBounds_toArray, List.set_cons_zero, List.set_cons_succ]
            refine wpAnyH_take (i := 8) (v := ?_) rfl (by kernel_rfl) (by kernel_rfl) (by kernel_rfl) (fun _ _ _ h => h) (Or.inl ⟨by rfl, ?_⟩) hS ?_
            rotate_left
            · intro w' hSw; obtain ⟨s1, s2⟩ := hSw; go_simp; try rfl
            try simp only [Act.put, List.getElem_toArray, List.getElem_cons_succ, List.getElem_cons_zero, List.setIfInBounds_toArray, List.set_cons_zero, List.set_cons_succ]
            refine wpAnyH_take (i := 9) (v := ?_) rfl (by kernel_rfl) (by kernel_rfl) (by kernel_rfl) (fun _ _ _ h => h) (Or.inl ⟨by rfl, ?_⟩) hS ?_
            rotate_left
            · intro w' hSw; go_simp; try rfl
            try simp only [Act.put, List.getElem_toArray, List.getElem_cons_succ, List.getElem_cons_zero, List.setIfInBounds_toArray, List.set_cons_zero, List.set_cons_succ]
            refine wpAnyH_ready (rs := [10]) (by kernel_rfl) (by simp) ?_
            refine AllReadyH.cons rfl (fun K hK => ?_) AllReadyH.nil
            go_simp
            refine (HTW.out).mono ?_
            rintro e wa ⟨rfl, hba⟩
            have HRA := Lib.hid (HRD.out.below hba)
            have hT : wa.cell? ⟨rg, 0, none⟩ = some (.int .i64 (g : Int)) ∧ wa.cell? ⟨rg, 1, none⟩ = some (.int .i64 (h : Int)) := ⟨cell_below hS.1 hba, cell_below hS.2 hba⟩
            clear hba HRD HTW
            go_wp2_with (fail)
            refine hK.out _ _ hT (fun hU => ?_)
            clear hK K hU hS
            have hS := hT
            clear hT
            try simp only [Act.put, List.getElem_toArray, List.getElem_cons_succ, List.getElem_cons_zero, List.setIfInBounds_toArray, List.set_cons_zero, List.set_cons_succ]
            refine wpAnyH_take (i := 11) (v := ?_) rfl (by kernel_rfl) (by kernel_rfl) (by kernel_rfl) (fun _ _ _ h => h) (Or.inl ⟨by rfl, ?_⟩) hS ?_
            rotate_left
            · intro w' hSw; go_simp; try rfl
            try simp only [Act.put, List.getElem_toArray, List.getElem_cons_succ, List.getElem_cons_zero, List.setIfInBounds_toArray, List.set_cons_zero, List.set_cons_succ]
            refine wpAnyH_take (i := 12) (v := ?_) rfl (by kernel_rfl) (by kernel_rfl) (by kernel_rfl) (fun _ _ _ h => h) (Or.inl ⟨by rfl, ?_⟩) hS ?_
            rotate_left
            · intro w' hSw; go_simp; try rfl
            try simp only [Act.put, List.getElem_toArray, List.getElem_cons_succ, List.getElem_cons_zero, List.setIfInBounds_toArray, List.set_cons_zero, List.set_cons_succ]
            refine wpAnyH_take (i := 13) (v := ?_) rfl (by kernel_rfl) (by kernel_rfl) (by kernel_rfl) (fun _ _ _ h => h) (Or.inl ⟨by rfl, ?_⟩) hS ?_
            rotate_left
            · intro w' hSw; go_simp; try rfl
            try simp only [Act.put, List.getElem_toArray, List.getElem_cons_succ, List.getElem_cons_zero, List.setIfInBounds_toArray, List.set_cons_zero, List.set_cons_succ]
            refine wpAnyH_take (i := 14) (v := ?_) rfl (by kernel_rfl) (by kernel_rfl) (by kernel_rfl) (fun _ _ _ h => h) (Or.inl ⟨by rfl, ?_⟩) hS ?_
            rotate_left
            · intro w' hSw; go_simp; try rfl
            try simp only [Act.put, List.getElem_toArray, List.getElem_cons_succ, List.getElem_cons_zero, List.setIfInBounds_toArray, List.set_cons_zero, List.set_cons_succ]
            refine wpAnyH_take (i := 15) (v := ?_) rfl (by kernel_rfl) (by kernel_rfl) (by kernel_rfl) (fun _ _ _ h => h) (Or.inl ⟨by rfl, ?_⟩) hS ?_
            rotate_left
            · intro w' hSw; go_simp; try rfl
            try simp only [Act.put, List.getElem_toArray, List.getElem_cons_succ, List.getElem_cons_zero, List.setIfInBounds_toArray, List.set_cons_zero, List.set_cons_succ]
            refine wpAnyH_done (by kernel_rfl) ?_ _
            have HFS := Lib.hid (fill_2s (p := p) (q := q) HGQ.out hgm hhm (by have := HGH.out; omega) k _ rfl)
            obtain ⟨y, hy, hcy, hoy⟩ := HRA.out.col (g := g) (by rw [fill_len]; exact hgm)
            have HY := Lib.hid hy
            obtain ⟨Ay, cy, hye, _, _⟩ := hoy.form
            have hlk : ((fill cs p q k).getD g []).length = k := HFS.out.1
            clear hoy hS hy
            subst hye
            have hs0 : wa.drew.cell? ⟨rg, 0, none⟩ = some (.int .i64 (g : Int)) := HRA.out.gcell (j := 0) HVG.out rfl
            have HRD := Lib.hid (HRA.out.below (Below.refl wa.heap.size wa).drew)
            have hcd : wa.drew.cell? ⟨ra, g, none⟩ = some (.slice Ay (I ((fill cs p q k).getD g [])).length cy) := hcy
            clear hcy
            go_upto_region 21 with (fail)
            refine wp_region_held_drew (S := fun W => W.cell? ⟨rg, 0, none⟩ = some (.int .i64 (g : Int))) (by kernel_rfl) hs0 (fun hS => ?_)
            clear hs0 HRA
            generalize hwd : wa.drew = wd at HRD hcd hS ⊢
            clear hwd
            refine wpAnyH_take (i := 0) (v := ?_) rfl (by kernel_rfl) (by kernel_rfl) (by kernel_rfl) (fun _ _ _ h => h) (Or.inl ⟨by rfl, ?_⟩) hS ?_
            rotate_left
            · intro w' hSw; go_simp; try rfl
            try simp only [Act.put, List.getElem_toArray, List.getElem_cons_succ, List.getElem_cons_zero, List.setIfInBounds_toArray, List.set_cons_zero, List.set_cons_succ]
            refine wpAnyH_take (i := 1) (v := ?_) rfl (by kernel_rfl) (by kernel_rfl) (by kernel_rfl) (fun _ _ _ h => h) (Or.inl ⟨by rfl, ?_⟩) hS ?_
            rotate_left
            · intro w' hSw; go_simp; try rfl
            try simp only [Act.put, List.getElem_toArray, List.getElem_cons_succ, List.getElem_cons_zero, List.setIfInBounds_toArray, List.set_cons_zero, List.set_cons_succ]
            refine wpAnyH_take (i := 2) (v := ?_) rfl (by kernel_rfl) (by kernel_rfl) (by kernel_rfl) (fun _ _ _ h => h) (Or.inl ⟨by rfl, ?_⟩) hS ?_
            rotate_left
            · intro w' hSw; go_simp; try rfl
            try simp only [Act.put, List.getElem_toArray, List.getElem_cons_succ, List.getElem_cons_zero, List.setIfInBounds_toArray, List.set_cons_zero, List.set_cons_succ]
            refine wpAnyH_take (i := 3) (v := ?_) rfl (by kernel_rfl) (by kernel_rfl) (by kernel_rfl) (fun _ _ _ h => h) (Or.inl ⟨by rfl, ?_⟩) hS ?_
            rotate_left
            · intro w' hSw; have s1 := hSw; go_simp; try rfl
            try simp only [Act.put, List.getElem_toArray, List.getElem_cons_succ, List.getElem_cons_zero, List.setIfInBounds_toArray, List.set_cons_zero, List.set_cons_succ]
            refine wpAnyH_take (i := 4) (v := ?_) rfl (by kernel_rfl) (by kernel_rfl) (by kernel_rfl) (fun _ _ _ h => h) (Or.inl ⟨by rfl, ?_⟩) hS ?_
            rotate_left
            · intro w' hSw; go_simp; try rfl
            try simp only [Act.put, List.getElem_toArray, List.getElem_cons_succ, List.getElem_cons_zero, List.setIfInBounds_toArray, List.set_cons_zero, List.set_cons_succ]
            refine wpAnyH_take (i := 5) (v := ?_) rfl (by kernel_rfl) (by kernel_rfl) (by kernel_rfl) (fun _ _ _ h => h) (Or.inl ⟨by rfl, ?_⟩) hS ?_
            rotate_left
            · intro w' hSw; go_simp; try rfl
            try simp only [Act.put, List.getElem_toArray, List.getElem_cons_succ, List.getElem_cons_zero, List.setIfInBounds_toArray, List.set_cons_zero, List.set_cons_succ]
            refine wpAnyH_take (i := 6) (v := ?_) rfl (by kernel_rfl) (by kernel_rfl) (by kernel_rfl) (fun _ _ _ h => h) (Or.inl ⟨by rfl, ?_⟩) hS ?_
            rotate_left
            · intro w' hSw; go_simp; try rfl
            try simp only [Act.put, List.getElem_toArray, List.getElem_cons_succ, List.getElem_cons_zero, List.setIfInBounds_toArray, List.set_cons_zero, List.set_cons_succ]
            refine wpAnyH_take (i := 7) (v := ?_) rfl (by kernel_rfl) (by kernel_rfl) (by kernel_rfl) (fun _ _ _ h => h) (Or.inl ⟨by rfl, ?_⟩) hS ?_
            rotate_left
            · intro w' hSw; have s1 := hSw; go_simp; try rfl
            try simp only [Act.put, List.getElem_toArray, List.getElem_cons_succ, List.getElem_cons_zero, List.setIfInBounds_toArray, List.set_cons_zero, List.set_cons_succ]
            refine wpAnyH_take (i := 8) (v := ?_) rfl (by kernel_rfl) (by kernel_rfl) (by kernel_rfl) (fun _ _ _ h => h) (Or.inl ⟨by rfl, ?_⟩) hS ?_
            rotate_left
            · intro w' hSw; go_simp; try rfl
            try simp only [Act.put, List.getElem_toArray, List.getElem_cons_succ, List.getElem_cons_zero, List.setIfInBounds_toArray, List.set_cons_zero, List.set_cons_succ]
            refine wpAnyH_take (i := 10) (v := ?_) rfl (by kernel_rfl) (by kernel_rfl) (by kernel_rfl) (fun _ _ _ h => h) (Or.inl ⟨by rfl, ?_⟩) hS ?_
            rotate_left
            · intro w' hSw; go_simp; try rfl
            try simp only [Act.put, List.getElem_toArray, List.getElem_cons_succ, List.getElem_cons_zero, List.setIfInBounds_toArray, List.set_cons_zero, List.set_cons_succ]
            refine wpAnyH_ready (rs := [9, 11]) (by kernel_rfl) (by simp) ?_
            refine AllReadyH.cons rfl (fun K hK => ?_) ?_
            · go_simp
              refine hK.out _ _ hS (fun hU => ?_)
              clear hK K hU
              try simp only [Act.put, List.getElem_toArray, List.getElem_cons_succ, List.getElem_cons_zero, List.setIfInBounds_toArray, List.set_cons_zero, List.set_cons_succ]
              refine wpAnyH_ready (rs := [11]) (by kernel_rfl) (by simp) ?_
              refine AllReadyH.cons rfl (fun K hK => ?_) AllReadyH.nil
              go_simp
              have hba := balloc wd (.cells #[.int .u8 ((fX cs p q g h k : Nat) : Int)] 5)
              have hcb := cell_below hcd hba
              have hT := cell_below hS hba
              clear hba
              refine hK.out _ _ hT (fun hU => ?_)
              clear hK K hU hS
              have hS := hT
              clear hT
              try simp only [Act.put, List.getElem_toArray, List.getElem_cons_succ, List.getElem_cons_zero, List.setIfInBounds_toArray, List.set_cons_zero, List.set_cons_succ]
              obtain ⟨y', w1, hr1, hmid⟩ := HRD.out.push (by rw [fill_len]; exact hgm) HY.out (fX cs p q g h k) (by rw [hlk]; omega)
              have HR1 := Lib.hid hr1
              have HMD := Lib.hid hmid
              clear hr1 hmid
              have hT := HMD.out.gl _ _ 0 _ HVG.out rfl
              refine wpAnyH_ready (rs := [12]) (by kernel_rfl) (by simp) ?_
              refine AllReadyH.cons rfl (fun K hK => ?_) AllReadyH.nil
              rw [if_pos (by rfl)]
              refine wp_append_ran (.tmp 120) (.tmp 122) 24 rfl _ _ (by rfl) (by rfl) y' w1 (by exact HR1.out) ?_
              refine hK.out _ _ hT (fun hU => ?_)
              clear hK K hU hS
              have hS := hT
              clear hT
              try simp only [Act.put, List.getElem_toArray, List.getElem_cons_succ, List.getElem_cons_zero, List.setIfInBounds_toArray, List.set_cons_zero, List.set_cons_succ]
              refine wpAnyH_take (i := 13) (v := ?_) rfl (by kernel_rfl) (by kernel_rfl) (by kernel_rfl) (fun _ _ _ h => h) (Or.inl ⟨by rfl, ?_⟩) hS ?_
              rotate_left
              · intro w' hSw; go_simp; try rfl
              try simp only [Act.put, List.getElem_toArray, List.getElem_cons_succ, List.getElem_cons_zero, List.setIfInBounds_toArray, List.set_cons_zero, List.set_cons_succ]
              obtain ⟨u8, hcx⟩ := HMD.out.cell
              have hfx := HMD.out.frozen
              have hT := HMD.out.gs _ _ 0 _ HVG.out rfl
              have HRZ := Lib.hid HMD.out.rn
              have hy1 : ∃ A m c, y' = .slice A m c := by
                have h := HMD.out.rn.c.el g y' _ (by rw [List.getElem?_set, if_pos rfl, if_pos (by rw [HRD.out.c.len, fill_len]; exact hgm)]) (by rw [List.getElem?_set, if_pos rfl, if_pos (by rw [fill_len]; exact hgm)])
                obtain ⟨A, c, he, _, _⟩ := own_form h
                exact ⟨A, _, c, he⟩
              obtain ⟨Az, mz, cz, rfl⟩ := hy1
              refine wpAnyH_ready (rs := [14]) (by kernel_rfl) (by simp) ?_
              refine AllReadyH.cons rfl (fun K hK => ?_) AllReadyH.nil
              go_simp
              refine hK.out _ _ hT (fun hU => ?_)
              clear hK K hU hS hcx hfx u8 HMD
              have hS := hT
              clear hT
              generalize w1.setCell _ _ = w2 at *
              try simp only [Act.put, List.getElem_toArray, List.getElem_cons_succ, List.getElem_cons_zero, List.setIfInBounds_toArray, List.set_cons_zero, List.set_cons_succ]
              refine wpAnyH_done (by kernel_rfl) ?_ _
              have HRZ0 := HRZ
              clear HRZ HRD
              obtain ⟨y2, hy2, hcy, hoy⟩ := HRZ0.out.col (g := h) (by rw [List.length_set, fill_len]; exact hhm)
              have HY2 := Lib.hid hy2
              obtain ⟨Ay2, cy2, hye, _, _⟩ := hoy.form
              have hlk2 : (((fill cs p q k).set g ((fill cs p q k).getD g [] ++ [fX cs p q g h k])).getD h []).length = k := HFS.out.2.1
              clear hoy hy2 hS
              subst hye
              have hs0 : w2.drew.cell? ⟨rg, 1, none⟩ = some (.int .i64 (h : Int)) := HRZ0.out.gcell (j := 1) HVG.out rfl
              have HRD := Lib.hid (HRZ0.out.below (Below.refl w2.heap.size w2).drew)
              have hcd : w2.drew.cell? ⟨ra, h, none⟩ = some (.slice Ay2 (I (((fill cs p q k).set g ((fill cs p q k).getD g [] ++ [fX cs p q g h k])).getD h [])).length cy2) := hcy
              clear hcy
              go_upto_region 22 with (fail)
              refine wp_region_held_drew (S := fun W => W.cell? ⟨rg, 1, none⟩ = some (.int .i64 (h : Int))) (by kernel_rfl) hs0 (fun hS => ?_)
              clear hs0 HRZ0
              generalize hwd : w2.drew = wd at HRD hcd hS ⊢
              clear hwd
              refine wpAnyH_take (i := 0) (v := ?_) rfl (by kernel_rfl) (by kernel_rfl) (by kernel_rfl) (fun _ _ _ h => h) (Or.inl ⟨by rfl, ?_⟩) hS ?_
              rotate_left
              · intro w' hSw; go_simp; try rfl
              try simp only [Act.put, List.getElem_toArray, List.getElem_cons_succ, List.getElem_cons_zero, List.setIfInBounds_toArray, List.set_cons_zero, List.set_cons_succ]
              refine wpAnyH_take (i := 1) (v := ?_) rfl (by kernel_rfl) (by kernel_rfl) (by kernel_rfl) (fun _ _ _ h => h) (Or.inl ⟨by rfl, ?_⟩) hS ?_
              rotate_left
              · intro w' hSw; go_simp; try rfl
              try simp only [Act.put, List.getElem_toArray, List.getElem_cons_succ, List.getElem_cons_zero, List.setIfInBounds_toArray, List.set_cons_zero, List.set_cons_succ]
              refine wpAnyH_take (i := 2) (v := ?_) rfl (by kernel_rfl) (by kernel_rfl) (by kernel_rfl) (fun _ _ _ h => h) (Or.inl ⟨by rfl, ?_⟩) hS ?_
              rotate_left
              · intro w' hSw; go_simp; try rfl
              try simp only [Act.put, List.getElem_toArray, List.getElem_cons_succ, List.getElem_cons_zero, List.setIfInBounds_toArray, List.set_cons_zero, List.set_cons_succ]
              refine wpAnyH_take (i := 3) (v := ?_) rfl (by kernel_rfl) (by kernel_rfl) (by kernel_rfl) (fun _ _ _ h => h) (Or.inl ⟨by rfl, ?_⟩) hS ?_
              rotate_left
              · intro w' hSw; have s1 := hSw; go_simp; try rfl
              try simp only [Act.put, List.getElem_toArray, List.getElem_cons_succ, List.getElem_cons_zero, List.setIfInBounds_toArray, List.set_cons_zero, List.set_cons_succ]
              refine wpAnyH_take (i := 4) (v := ?_) rfl (by kernel_rfl) (by kernel_rfl) (by kernel_rfl) (fun _ _ _ h => h) (Or.inl ⟨by rfl, ?_⟩) hS ?_
              rotate_left
              · intro w' hSw; go_simp; try rfl
              try simp only [Act.put, List.getElem_toArray, List.getElem_cons_succ, List.getElem_cons_zero, List.setIfInBounds_toArray, List.set_cons_zero, List.set_cons_succ]
              refine wpAnyH_take (i := 5) (v := ?_) rfl (by kernel_rfl) (by kernel_rfl) (by kernel_rfl) (fun _ _ _ h => h) (Or.inl ⟨by rfl, ?_⟩) hS ?_
              rotate_left
              · intro w' hSw; go_simp; try rfl
              try simp only [Act.put, List.getElem_toArray, List.getElem_cons_succ, List.getElem_cons_zero, List.setIfInBounds_toArray, List.set_cons_zero, List.set_cons_succ]
              refine wpAnyH_take (i := 6) (v := ?_) rfl (by kernel_rfl) (by kernel_rfl) (by kernel_rfl) (fun _ _ _ h => h) (Or.inl ⟨by rfl, ?_⟩) hS ?_
              rotate_left
              · intro w' hSw; go_simp; try rfl
              try simp only [Act.put, List.getElem_toArray, List.getElem_cons_succ, List.getElem_cons_zero, List.setIfInBounds_toArray, List.set_cons_zero, List.set_cons_succ]
              refine wpAnyH_take (i := 7) (v := ?_) rfl (by kernel_rfl) (by kernel_rfl) (by kernel_rfl) (fun _ _ _ h => h) (Or.inl ⟨by rfl, ?_⟩) hS ?_
              rotate_left
              · intro w' hSw; have s1 := hSw; go_simp; try rfl
              try simp only [Act.put, List.getElem_toArray, List.getElem_cons_succ, List.getElem_cons_zero, List.setIfInBounds_toArray, List.set_cons_zero, List.set_cons_succ]
              refine wpAnyH_take (i := 8) (v := ?_) rfl (by kernel_rfl) (by kernel_rfl) (by kernel_rfl) (fun _ _ _ h => h) (Or.inl ⟨by rfl, ?_⟩) hS ?_
              rotate_left
              · intro w' hSw; go_simp; try rfl
              try simp only [Act.put, List.getElem_toArray, List.getElem_cons_succ, List.getElem_cons_zero, List.setIfInBounds_toArray, List.set_cons_zero, List.set_cons_succ]
              refine wpAnyH_take (i := 10) (v := ?_) rfl (by kernel_rfl) (by kernel_rfl) (by kernel_rfl) (fun _ _ _ h => h) (Or.inl ⟨by rfl, ?_⟩) hS ?_
              rotate_left
              · intro w' hSw; go_simp; try rfl
              try simp only [Act.put, List.getElem_toArray, List.getElem_cons_succ, List.getElem_cons_zero, List.setIfInBounds_toArray, List.set_cons_zero, List.set_cons_succ]
              refine wpAnyH_ready (rs := [9, 11]) (by kernel_rfl) (by simp) ?_
              refine AllReadyH.cons rfl (fun K hK => ?_) ?_
              · go_simp
                refine hK.out _ _ hS (fun hU => ?_)
                clear hK K hU
                try simp only [Act.put, List.getElem_toArray, List.getElem_cons_succ, List.getElem_cons_zero, List.setIfInBounds_toArray, List.set_cons_zero, List.set_cons_succ]
                refine wpAnyH_ready (rs := [11]) (by kernel_rfl) (by simp) ?_
                refine AllReadyH.cons rfl (fun K hK => ?_) AllReadyH.nil
                go_simp
                have hba := balloc wd (.cells #[.int .u8 ((fY cs p q g h k : Nat) : Int)] 5)
                have hcb := cell_below hcd hba
                have hT := cell_below hS hba
                clear hba
                refine hK.out _ _ hT (fun hU => ?_)
                clear hK K hU hS
                have hS := hT
                clear hT
                try simp only [Act.put, List.getElem_toArray, List.getElem_cons_succ, List.getElem_cons_zero, List.setIfInBounds_toArray, List.set_cons_zero, List.set_cons_succ]
                obtain ⟨y', w1, hr1, hmid⟩ := HRD.out.push (by rw [List.length_set, fill_len]; exact hhm) HY2.out (fY cs p q g h k) (by rw [hlk2]; omega)
                have HR1 := Lib.hid hr1
                have HMD := Lib.hid hmid
                clear hr1 hmid
                have hT := HMD.out.gl _ _ 1 _ HVG.out rfl
                refine wpAnyH_ready (rs := [12]) (by kernel_rfl) (by simp) ?_
                refine AllReadyH.cons rfl (fun K hK => ?_) AllReadyH.nil
                rw [if_pos (by rfl)]
                refine wp_append_ran (.tmp 134) (.tmp 136) 24 rfl _ _ (by rfl) (by rfl) y' w1 (by exact HR1.out) ?_
                refine hK.out _ _ hT (fun hU => ?_)
                clear hK K hU hS
                have hS := hT
                clear hT
                try simp only [Act.put, List.getElem_toArray, List.getElem_cons_succ, List.getElem_cons_zero, List.setIfInBounds_toArray, List.set_cons_zero, List.set_cons_succ]
                refine wpAnyH_take (i := 13) (v := ?_) rfl (by kernel_rfl) (by kernel_rfl) (by kernel_rfl) (fun _ _ _ h => h) (Or.inl ⟨by rfl, ?_⟩) hS ?_
                rotate_left
                · intro w' hSw; go_simp; try rfl
                try simp only [Act.put, List.getElem_toArray, List.getElem_cons_succ, List.getElem_cons_zero, List.setIfInBounds_toArray, List.set_cons_zero, List.set_cons_succ]
                obtain ⟨u8, hcx⟩ := HMD.out.cell
                have hfx := HMD.out.frozen
                have hT := HMD.out.gs _ _ 1 _ HVG.out rfl
                have HRZ := Lib.hid HMD.out.rn
                have hy1 : ∃ A m c, y' = .slice A m c := by
                  have h := HMD.out.rn.c.el h y' _ (by rw [List.getElem?_set, if_pos rfl, if_pos (by rw [HRD.out.c.len, List.length_set, fill_len]; exact hhm)]) (by rw [List.getElem?_set, if_pos rfl, if_pos (by rw [List.length_set, fill_len]; exact hhm)])
                  obtain ⟨A, c, he, _, _⟩ := own_form h
                  exact ⟨A, _, c, he⟩
                obtain ⟨Az, mz, cz, rfl⟩ := hy1
                refine wpAnyH_ready (rs := [14]) (by kernel_rfl) (by simp) ?_
                refine AllReadyH.cons rfl (fun K hK => ?_) AllReadyH.nil
                go_simp
                refine hK.out _ _ hT (fun hU => ?_)
                clear hK K hU hS hcx hfx u8 HMD
                have hS := hT
                clear hT
                generalize w1.setCell _ _ = w2 at *
                try simp only [Act.put, List.getElem_toArray, List.getElem_cons_succ, List.getElem_cons_zero, List.setIfInBounds_toArray, List.set_cons_zero, List.set_cons_succ]
                refine wpAnyH_done (by kernel_rfl) ?_ _
                go_wp2_with (fail)
                go_roundg (n - (k + 1))
                case measure => have := HQ.out; omega
                case rel => exact ⟨k + 1, _, by omega, by go_num, rfl, by rw [← HFS.out.2.2]; exact HRZ.out⟩
              refine AllReadyH.cons rfl (fun K hK => ?_) AllReadyH.nil
              go_simp
              have hba := balloc wd (.cells #[.int .u8 ((fY cs p q g h k : Nat) : Int)] 5)
              have hcb := cell_below hcd hba
              have hT := cell_below hS hba
              clear hba
              refine hK.out _ _ hT (fun hU => ?_)
              clear hK K hU hS
              have hS := hT
              clear hT
              try simp only [Act.put, List.getElem_toArray, List.getElem_cons_succ, List.getElem_cons_zero, List.setIfInBounds_toArray, List.set_cons_zero, List.set_cons_succ]
              refine wpAnyH_ready (rs := [9]) (by kernel_rfl) (by simp) ?_
              refine AllReadyH.cons rfl (fun K hK => ?_) AllReadyH.nil
              go_simp
              refine hK.out _ _ hS (fun hU => ?_)
              clear hK K hU
              try simp only [Act.put, List.getElem_toArray, List.getElem_cons_succ, List.getElem_cons_zero, List.setIfInBounds_toArray, List.set_cons_zero, List.set_cons_succ]
              obtain ⟨y', w1, hr1, hmid⟩ := HRD.out.push (by rw [List.length_set, fill_len]; exact hhm) HY2.out (fY cs p q g h k) (by rw [hlk2]; omega)
              have HR1 := Lib.hid hr1
              have HMD := Lib.hid hmid
              clear hr1 hmid
              have hT := HMD.out.gl _ _ 1 _ HVG.out rfl
              refine wpAnyH_ready (rs := [12]) (by kernel_rfl) (by simp) ?_
              refine AllReadyH.cons rfl (fun K hK => ?_) AllReadyH.nil
              rw [if_pos (by rfl)]
              refine wp_append_ran (.tmp 134) (.tmp 136) 24 rfl _ _ (by rfl) (by rfl) y' w1 (by exact HR1.out) ?_
              refine hK.out _ _ hT (fun hU => ?_)
              clear hK K hU hS
              have hS := hT
              clear hT
              try simp only [Act.put, List.getElem_toArray, List.getElem_cons_succ, List.getElem_cons_zero, List.setIfInBounds_toArray, List.set_cons_zero, List.set_cons_succ]
              refine wpAnyH_take (i := 13) (v := ?_) rfl (by kernel_rfl) (by kernel_rfl) (by kernel_rfl) (fun _ _ _ h => h) (Or.inl ⟨by rfl, ?_⟩) hS ?_
              rotate_left
              · intro w' hSw; go_simp; try rfl
              try simp only [Act.put, List.getElem_toArray, List.getElem_cons_succ, List.getElem_cons_zero, List.setIfInBounds_toArray, List.set_cons_zero, List.set_cons_succ]
              obtain ⟨u8, hcx⟩ := HMD.out.cell
              have hfx := HMD.out.frozen
              have hT := HMD.out.gs _ _ 1 _ HVG.out rfl
              have HRZ := Lib.hid HMD.out.rn
              have hy1 : ∃ A m c, y' = .slice A m c := by
                have h := HMD.out.rn.c.el h y' _ (by rw [List.getElem?_set, if_pos rfl, if_pos (by rw [HRD.out.c.len, List.length_set, fill_len]; exact hhm)]) (by rw [List.getElem?_set, if_pos rfl, if_pos (by rw [List.length_set, fill_len]; exact hhm)])
                obtain ⟨A, c, he, _, _⟩ := own_form h
                exact ⟨A, _, c, he⟩
              obtain ⟨Az, mz, cz, rfl⟩ := hy1
              refine wpAnyH_ready (rs := [14]) (by kernel_rfl) (by simp) ?_
              refine AllReadyH.cons rfl (fun K hK => ?_) AllReadyH.nil
              go_simp
              refine hK.out _ _ hT (fun hU => ?_)
              clear hK K hU hS hcx hfx u8 HMD
              have hS := hT
              clear hT
              generalize w1.setCell _ _ = w2 at *
              try simp only [Act.put, List.getElem_toArray, List.getElem_cons_succ, List.getElem_cons_zero, List.setIfInBounds_toArray, List.set_cons_zero, List.set_cons_succ]
              refine wpAnyH_done (by kernel_rfl) ?_ _
              go_wp2_with (fail)
              go_roundg (n - (k + 1))
              case measure => have := HQ.out; omega
              case rel => exact ⟨k + 1, _, by omega, by go_num, rfl, by rw [← HFS.out.2.2]; exact HRZ.out⟩
            refine AllReadyH.cons rfl (fun K hK => ?_) AllReadyH.nil
            go_simp
            have hba := balloc wd (.cells #[.int .u8 ((fX cs p q g h k : Nat) : Int)] 5)
            have hcb := cell_below hcd hba
            have hT := cell_below hS hba
            clear hba
            refine hK.out _ _ hT (fun hU => ?_)
            clear hK K hU hS
            have hS := hT
            clear hT
            try simp only [Act.put, List.getElem_toArray, List.getElem_cons_succ, List.getElem_cons_zero, List.setIfInBounds_toArray, List.set_cons_zero, List.set_cons_succ]
            refine wpAnyH_ready (rs := [9]) (by kernel_rfl) (by simp) ?_
            refine AllReadyH.cons rfl (fun K hK => ?_) AllReadyH.nil
            go_simp
            refine hK.out _ _ hS (fun hU => ?_)
            clear hK K hU
            try simp only [Act.put, List.getElem_toArray, List.getElem_cons_succ, List.getElem_cons_zero, List.setIfInBounds_toArray, List.set_cons_zero, List.set_cons_succ]
            obtain ⟨y', w1, hr1, hmid⟩ := HRD.out.push (by rw [fill_len]; exact hgm) HY.out (fX cs p q g h k) (by rw [hlk]; omega)
            have HR1 := Lib.hid hr1
            have HMD := Lib.hid hmid
            clear hr1 hmid
            have hT := HMD.out.gl _ _ 0 _ HVG.out rfl
            refine wpAnyH_ready (rs := [12]) (by kernel_rfl) (by simp) ?_
            refine AllReadyH.cons rfl (fun K hK => ?_) AllReadyH.nil
            rw [if_pos (by rfl)]
            refine wp_append_ran (.tmp 120) (.tmp 122) 24 rfl _ _ (by rfl) (by rfl) y' w1 (by exact HR1.out) ?_
            refine hK.out _ _ hT (fun hU => ?_)
            clear hK K hU hS
            have hS := hT
            clear hT
            try simp only [Act.put, List.getElem_toArray, List.getElem_cons_succ, List.getElem_cons_zero, List.setIfInBounds_toArray, List.set_cons_zero, List.set_cons_succ]
            refine wpAnyH_take (i := 13) (v := ?_) rfl (by kernel_rfl) (by kernel_rfl) (by kernel_rfl) (fun _ _ _ h => h) (Or.inl ⟨by rfl, ?_⟩) hS ?_
            rotate_left
            · intro w' hSw; go_simp; try rfl
            try simp only [Act.put, List.getElem_toArray, List.getElem_cons_succ, List.getElem_cons_zero, List.setIfInBounds_toArray, List.set_cons_zero, List.set_cons_succ]
            obtain ⟨u8, hcx⟩ := HMD.out.cell
            have hfx := HMD.out.frozen
            have hT := HMD.out.gs _ _ 0 _ HVG.out rfl
            have HRZ := Lib.hid HMD.out.rn
            have hy1 : ∃ A m c, y' = .slice A m c := by
              have h := HMD.out.rn.c.el g y' _ (by rw [List.getElem?_set, if_pos rfl, if_pos (by rw [HRD.out.c.len, fill_len]; exact hgm)]) (by rw [List.getElem?_set, if_pos rfl, if_pos (by rw [fill_len]; exact hgm)])
              obtain ⟨A, c, he, _, _⟩ := own_form h
              exact ⟨A, _, c, he⟩
            obtain ⟨Az, mz, cz, rfl⟩ := hy1
            refine wpAnyH_ready (rs := [14]) (by kernel_rfl) (by simp) ?_
            refine AllReadyH.cons rfl (fun K hK => ?_) AllReadyH.nil
            go_simp
            refine hK.out _ _ hT (fun hU => ?_)
            clear hK K hU hS hcx hfx u8 HMD
            have hS := hT
            clear hT
            generalize w1.setCell _ _ = w2 at *
            try simp only [Act.put, List.getElem_toArray, List.getElem_cons_succ, List.getElem_cons_zero, List.setIfInBounds_toArray, List.set_cons_zero, List.set_cons_succ]
            refine wpAnyH_done (by kernel_rfl) ?_ _
            have HRZ0 := HRZ
            clear HRZ HRD
            obtain ⟨y2, hy2, hcy, hoy⟩ := HRZ0.out.col (g := h) (by rw [List.length_set, fill_len]; exact hhm)
            have HY2 := Lib.hid hy2
            obtain ⟨Ay2, cy2, hye, _, _⟩ := hoy.form
            have hlk2 : (((fill cs p q k).set g ((fill cs p q k).getD g [] ++ [fX cs p q g h k])).getD h []).length = k := HFS.out.2.1
            clear hoy hy2 hS
            subst hye
            have hs0 : w2.drew.cell? ⟨rg, 1, none⟩ = some (.int .i64 (h : Int)) := HRZ0.out.gcell (j := 1) HVG.out rfl
            have HRD := Lib.hid (HRZ0.out.below (Below.refl w2.heap.size w2).drew)
            have hcd : w2.drew.cell? ⟨ra, h, none⟩ = some (.slice Ay2 (I (((fill cs p q k).set g ((fill cs p q k).getD g [] ++ [fX cs p q g h k])).getD h [])).length cy2) := hcy
            clear hcy
            go_upto_region 22 with (fail)
            refine wp_region_held_drew (S := fun W => W.cell? ⟨rg, 1, none⟩ = some (.int .i64 (h : Int))) (by kernel_rfl) hs0 (fun hS => ?_)
            clear hs0 HRZ0
            generalize hwd : w2.drew = wd at HRD hcd hS ⊢
            clear hwd
            refine wpAnyH_take (i := 0) (v := ?_) rfl (by kernel_rfl) (by kernel_rfl) (by kernel_rfl) (fun _ _ _ h => h) (Or.inl ⟨by rfl, ?_⟩) hS ?_
            rotate_left
            · intro w' hSw; go_simp; try rfl
            try simp only [Act.put, List.getElem_toArray, List.getElem_cons_succ, List.getElem_cons_zero, List.setIfInBounds_toArray, List.set_cons_zero, List.set_cons_succ]
            refine wpAnyH_take (i := 1) (v := ?_) rfl (by kernel_rfl) (by kernel_rfl) (by kernel_rfl) (fun _ _ _ h => h) (Or.inl ⟨by rfl, ?_⟩) hS ?_
            rotate_left
            · intro w' hSw; go_simp; try rfl
            try simp only [Act.put, List.getElem_toArray, List.getElem_cons_succ, List.getElem_cons_zero, List.setIfInBounds_toArray, List.set_cons_zero, List.set_cons_succ]
            refine wpAnyH_take (i := 2) (v := ?_) rfl (by kernel_rfl) (by kernel_rfl) (by kernel_rfl) (fun _ _ _ h => h) (Or.inl ⟨by rfl, ?_⟩) hS ?_
            rotate_left
            · intro w' hSw; go_simp; try rfl
            try simp only [Act.put, List.getElem_toArray, List.getElem_cons_succ, List.getElem_cons_zero, List.setIfInBounds_toArray, List.set_cons_zero, List.set_cons_succ]
            refine wpAnyH_take (i := 3) (v := ?_) rfl (by kernel_rfl) (by kernel_rfl) (by kernel_rfl) (fun _ _ _ h => h) (Or.inl ⟨by rfl, ?_⟩) hS ?_
            rotate_left
            · intro w' hSw; have s1 := hSw; go_simp; try rfl
            try simp only [Act.put, List.getElem_toArray, List.getElem_cons_succ, List.getElem_cons_zero, List.setIfInBounds_toArray, List.set_cons_zero, List.set_cons_succ]
            refine wpAnyH_take (i := 4) (v := ?_) rfl (by kernel_rfl) (by kernel_rfl) (by kernel_rfl) (fun _ _ _ h => h) (Or.inl ⟨by rfl, ?_⟩) hS ?_
            rotate_left
            · intro w' hSw; go_simp; try rfl
            try simp only [Act.put, List.getElem_toArray, List.getElem_cons_succ, List.getElem_cons_zero, List.setIfInBounds_toArray, List.set_cons_zero, List.set_cons_succ]
            refine wpAnyH_take (i := 5) (v := ?_) rfl (by kernel_rfl) (by kernel_rfl) (by kernel_rfl) (fun _ _ _ h => h) (Or.inl ⟨by rfl, ?_⟩) hS ?_
            rotate_left
            · intro w' hSw; go_simp; try rfl
            try simp only [Act.put, List.getElem_toArray, List.getElem_cons_succ, List.getElem_cons_zero, List.setIfInBounds_toArray, List.set_cons_zero, List.set_cons_succ]
            refine wpAnyH_take (i := 6) (v := ?_) rfl (by kernel_rfl) (by kernel_rfl) (by kernel_rfl) (fun _ _ _ h => h) (Or.inl ⟨by rfl, ?_⟩) hS ?_
            rotate_left
            · intro w' hSw; go_simp; try rfl
            try simp only [Act.put, List.getElem_toArray, List.getElem_cons_succ, List.getElem_cons_zero, List.setIfInBounds_toArray, List.set_cons_zero, List.set_cons_succ]
            refine wpAnyH_take (i := 7) (v := ?_) rfl (by kernel_rfl) (by kernel_rfl) (by kernel_rfl) (fun _ _ _ h => h) (Or.inl ⟨by rfl, ?_⟩) hS ?_
            rotate_left
            · intro w' hSw; have s1 := hSw; go_simp; try rfl
            try simp only [Act.put, List.getElem_toArray, List.getElem_cons_succ, List.getElem_cons_zero, List.setIfInBounds_toArray, List.set_cons_zero, List.set_cons_succ]
            refine wpAnyH_take (i := 8) (v := ?_) rfl (by kernel_rfl) (by kernel_rfl) (by kernel_rfl) (fun _ _ _ h => h) (Or.inl ⟨by rfl, ?_⟩) hS ?_
            rotate_left
            · intro w' hSw; go_simp; try rfl
            try simp only [Act.put, List.getElem_toArray, List.getElem_cons_succ, List.getElem_cons_zero, List.setIfInBounds_toArray, List.set_cons_zero, List.set_cons_succ]
            refine wpAnyH_take (i := 10) (v := ?_) rfl (by kernel_rfl) (by kernel_rfl) (by kernel_rfl) (fun _ _ _ h => h) (Or.inl ⟨by rfl, ?_⟩) hS ?_
            rotate_left
            · intro w' hSw; go_simp; try rfl
            try simp only [Act.put, List.getElem_toArray, List.getElem_cons_succ, List.getElem_cons_zero, List.setIfInBounds_toArray, List.set_cons_zero, List.set_cons_succ]
            refine wpAnyH_ready (rs := [9, 11]) (by kernel_rfl) (by simp) ?_
            refine AllReadyH.cons rfl (fun K hK => ?_) ?_
            · go_simp
              refine hK.out _ _ hS (fun hU => ?_)
              clear hK K hU
              try simp only [Act.put, List.getElem_toArray, List.getElem_cons_succ, List.getElem_cons_zero, List.setIfInBounds_toArray, List.set_cons_zero, List.set_cons_succ]
              refine wpAnyH_ready (rs := [11]) (by kernel_rfl) (by simp) ?_
              refine AllReadyH.cons rfl (fun K hK => ?_) AllReadyH.nil
              go_simp
              have hba := balloc wd (.cells #[.int .u8 ((fY cs p q g h k : Nat) : Int)] 5)
              have hcb := cell_below hcd hba
              have hT := cell_below hS hba
              clear hba
              refine hK.out _ _ hT (fun hU => ?_)
              clear hK K hU hS
              have hS := hT
              clear hT
              try simp only [Act.put, List.getElem_toArray, List.getElem_cons_succ, List.getElem_cons_zero, List.setIfInBounds_toArray, List.set_cons_zero, List.set_cons_succ]
              obtain ⟨y', w1, hr1, hmid⟩ := HRD.out.push (by rw [List.length_set, fill_len]; exact hhm) HY2.out (fY cs p q g h k) (by rw [hlk2]; omega)
              have HR1 := Lib.hid hr1
              have HMD := Lib.hid hmid
              clear hr1 hmid
              have hT := HMD.out.gl _ _ 1 _ HVG.out rfl
              refine wpAnyH_ready (rs := [12]) (by kernel_rfl) (by simp) ?_
              refine AllReadyH.cons rfl (fun K hK => ?_) AllReadyH.nil
              rw [if_pos (by rfl)]
              refine wp_append_ran (.tmp 134) (.tmp 136) 24 rfl _ _ (by rfl) (by rfl) y' w1 (by exact HR1.out) ?_
              refine hK.out _ _ hT (fun hU => ?_)
              clear hK K hU hS
              have hS := hT
              clear hT
              try simp only [Act.put, List.getElem_toArray, List.getElem_cons_succ, List.getElem_cons_zero, List.setIfInBounds_toArray, List.set_cons_zero, List.set_cons_succ]
              refine wpAnyH_take (i := 13) (v := ?_) rfl (by kernel_rfl) (by kernel_rfl) (by kernel_rfl) (fun _ _ _ h => h) (Or.inl ⟨by rfl, ?_⟩) hS ?_
              rotate_left
              · intro w' hSw; go_simp; try rfl
              try simp only [Act.put, List.getElem_toArray, List.getElem_cons_succ, List.getElem_cons_zero, List.setIfInBounds_toArray, List.set_cons_zero, List.set_cons_succ]
              obtain ⟨u8, hcx⟩ := HMD.out.cell
              have hfx := HMD.out.frozen
              have hT := HMD.out.gs _ _ 1 _ HVG.out rfl
              have HRZ := Lib.hid HMD.out.rn
              have hy1 : ∃ A m c, y' = .slice A m c := by
                have h := HMD.out.rn.c.el h y' _ (by rw [List.getElem?_set, if_pos rfl, if_pos (by rw [HRD.out.c.len, List.length_set, fill_len]; exact hhm)]) (by rw [List.getElem?_set, if_pos rfl, if_pos (by rw [List.length_set, fill_len]; exact hhm)])
                obtain ⟨A, c, he, _, _⟩ := own_form h
                exact ⟨A, _, c, he⟩
              obtain ⟨Az, mz, cz, rfl⟩ := hy1
              refine wpAnyH_ready (rs := [14]) (by kernel_rfl) (by simp) ?_
              refine AllReadyH.cons rfl (fun K hK => ?_) AllReadyH.nil
              go_simp
              refine hK.out _ _ hT (fun hU => ?_)
              clear hK K hU hS hcx hfx u8 HMD
              have hS := hT
              clear hT
              generalize w1.setCell _ _ = w2 at *
              try simp only [Act.put, List.getElem_toArray, List.getElem_cons_succ, List.getElem_cons_zero, List.setIfInBounds_toArray, List.set_cons_zero, List.set_cons_succ]
              refine wpAnyH_done (by kernel_rfl) ?_ _
              go_wp2_with (fail)
              go_roundg (n - (k + 1))
              case measure => have := HQ.out; omega
              case rel => exact ⟨k + 1, _, by omega, by go_num, rfl, by rw [← HFS.out.2.2]; exact HRZ.out⟩
            refine AllReadyH.cons rfl (fun K hK => ?_) AllReadyH.nil
            go_simp
            have hba := balloc wd (.cells #[.int .u8 ((fY cs p q g h k : Nat) : Int)] 5)
            have hcb := cell_below hcd hba
            have hT := cell_below hS hba
            clear hba
            refine hK.out _ _ hT (fun hU => ?_)
            clear hK K hU hS
            have hS := hT
            clear hT
            try simp only [Act.put, List.getElem_toArray, List.getElem_cons_succ, List.getElem_cons_zero, List.setIfInBounds_toArray, List.set_cons_zero, List.set_cons_succ]
            refine wpAnyH_ready (rs := [9]) (by kernel_rfl) (by simp) ?_
            refine AllReadyH.cons rfl (fun K hK => ?_) AllReadyH.nil
            go_simp
            refine hK.out _ _ hS (fun hU => ?_)
            clear hK K hU
            try simp only [Act.put, List.getElem_toArray, List.getElem_cons_succ, List.getElem_cons_zero, List.setIfInBounds_toArray, List.set_cons_zero, List.set_cons_succ]
            obtain ⟨y', w1, hr1, hmid⟩ := HRD.out.push (by rw [List.length_set, fill_len]; exact hhm) HY2.out (fY cs p q g h k) (by rw [hlk2]; omega)
            have HR1 := Lib.hid hr1
            have HMD := Lib.hid hmid
            clear hr1 hmid
            have hT := HMD.out.gl _ _ 1 _ HVG.out rfl
            refine wpAnyH_ready (rs := [12]) (by kernel_rfl) (by simp) ?_
            refine AllReadyH.cons rfl (fun K hK => ?_) AllReadyH.nil
            rw [if_pos (by rfl)]
            refine wp_append_ran (.tmp 134) (.tmp 136) 24 rfl _ _ (by rfl) (by rfl) y' w1 (by exact HR1.out) ?_
            refine hK.out _ _ hT (fun hU => ?_)
            clear hK K hU hS
            have hS := hT
            clear hT
            try simp only [Act.put, List.getElem_toArray, List.getElem_cons_succ, List.getElem_cons_zero, List.setIfInBounds_toArray, List.set_cons_zero, List.set_cons_succ]
            refine wpAnyH_take (i := 13) (v := ?_) rfl (by kernel_rfl) (by kernel_rfl) (by kernel_rfl) (fun _ _ _ h => h) (Or.inl ⟨by rfl, ?_⟩) hS ?_
            rotate_left
            · intro w' hSw; go_simp; try rfl
            try simp only [Act.put, List.getElem_toArray, List.getElem_cons_succ, List.getElem_cons_zero, List.setIfInBounds_toArray, List.set_cons_zero, List.set_cons_succ]
            obtain ⟨u8, hcx⟩ := HMD.out.cell
            have hfx := HMD.out.frozen
            have hT := HMD.out.gs _ _ 1 _ HVG.out rfl
            have HRZ := Lib.hid HMD.out.rn
            have hy1 : ∃ A m c, y' = .slice A m c := by
              have h := HMD.out.rn.c.el h y' _ (by rw [List.getElem?_set, if_pos rfl, if_pos (by rw [HRD.out.c.len, List.length_set, fill_len]; exact hhm)]) (by rw [List.getElem?_set, if_pos rfl, if_pos (by rw [List.length_set, fill_len]; exact hhm)])
              obtain ⟨A, c, he, _, _⟩ := own_form h
              exact ⟨A, _, c, he⟩
            obtain ⟨Az, mz, cz, rfl⟩ := hy1
            refine wpAnyH_ready (rs := [14]) (by kernel_rfl) (by simp) ?_
            refine AllReadyH.cons rfl (fun K hK => ?_) AllReadyH.nil
            go_simp
            refine hK.out _ _ hT (fun hU => ?_)
            clear hK K hU hS hcx hfx u8 HMD
            have hS := hT
            clear hT
            generalize w1.setCell _ _ = w2 at *
            try simp only [Act.put, List.getElem_toArray, List.getElem_cons_succ, List.getElem_cons_zero, List.setIfInBounds_toArray, List.set_cons_zero, List.set_cons_succ]
            refine wpAnyH_done (by kernel_rfl) ?_ _
            go_wp2_with (fail)
            go_roundg (n - (k + 1))
            case measure => have := HQ.out; omega
            case rel => exact ⟨k + 1, _, by omega, by go_num, rfl, by rw [← HFS.out.2.2]; exact HRZ.out⟩
          · exact absurd HG3.1 (by simp)
        · obtain rfl : n = k := by omega
          have hc9 := HRN.out.c
          rw [HF.out] at hc9
          have HB9 := Lib.hid HRN.out.b
          have HFB : Hid (Bytt F) := Lib.hid (by rw [← HF.out]; exact fill_bytt b0)
          have HFN : Hid (F.length = cs.length) := Lib.hid (by rw [← HF.out]; exact fill_len cs p q n)
          have HCX := Lib.hid hc9
          obtain ⟨Ae, ce, hea, hce, hre⟩ := hc9.C (by rw [HFN.out]; omega)
          injection hea with e1 e2 e3
          subst e1 e3
          have EN := Lib.hid (rencode_any wr _ _ F _ _ _ hre hce (renc_ok F n HFB.out HGO.out))
          rw [← e2] at EN
          clear hc9 hce hre HRN HQ hkl e2
          generalize hu6 : Value.slice (some ⟨ra, 0, none⟩) cs.length ca = u6' at *
          clear hu6
          go_wp2_with (fail)
          refine (EN.out).mono ?_
          rintro e w4 ⟨v4, v5, rfl, hv4, hv5, hap, hb4⟩
          obtain ⟨A4, c4, rfl, _, _⟩ := hv4.form
          obtain ⟨A5, c5, rfl, _, _⟩ := hv5.form
          have HV4 := Lib.hid hv4
          have HV5 := Lib.hid hv5
          have HAP := Lib.hid hap
          have HB4 := Lib.hid hb4
          have HBW := Lib.hid (HB9.out.trans (hb4.mono HB9.out.size))
          clear hv4 hv5 hap hb4 EN HG2 HGQ
          by_cases hp0 : p.length = 0
          · have q1 : ¬ (0 : Int) < ((I p).length : Int) := by rw [I_len]; omega
            have q1' : ¬ 0 < (I p).length := by rw [I_len]; omega
            have HP0 := Lib.hid hp0
            clear hp0
            by_cases hq0 : q.length = 0
            · have q2 : ¬ (0 : Int) < ((I q).length : Int) := by rw [I_len]; omega
              have q2' : ¬ 0 < (I q).length := by rw [I_len]; omega
              have HQ0 := Lib.hid hq0
              clear hq0
              go_wp2_with (fail)
              refine bodyPost_ret (results_4 rfl _ _) rfl ?_
              exact rcv_close HB9.out HB4.out HCX.out HV4.out HV5.out HAP.out (by rw [← HR.out, if_pos HP0.out, if_pos HQ0.out])
            · have q2 : (0 : Int) < ((I q).length : Int) := by rw [I_len]; omega
              have q2' : 0 < (I q).length := by rw [I_len]; omega
              have HQ0 := Lib.hid hq0
              clear hq0
              obtain ⟨v7, w7, hr7, ho7, hb7⟩ := copy_run w4 A2 c2 q (H2.out.below HBW.out) (by have := HLQ.out; omega)
              have HR7 := Lib.hid hr7
              have HO7 := Lib.hid ho7
              have HB7 := Lib.hid hb7
              obtain ⟨A7, c7, rfl, _, _⟩ := ho7.form
              clear hr7 ho7 hb7
              go_wp2_with (first
                | (at_builtin; refine wpList_append_ran rfl (.tmp 154) (.tmp 155) 24 rfl _ _ rfl rfl _ w7 HR7.out ?_))
              refine bodyPost_ret (results_4 rfl _ _) rfl ?_
              exact rcv_close HB9.out (HB4.out.trans (HB7.out.mono HB4.out.size)) HCX.out (own_belowB HV4.out HB7.out) (own_lower HO7.out HB4.out.size) (fun k hk h => by have a := (HV4.out.lt k hk).2; have b := (HO7.out.lt k h).1; omega) (by rw [← HR.out, if_pos HP0.out, if_neg HQ0.out])
          · have q1 : (0 : Int) < ((I p).length : Int) := by rw [I_len]; omega
            have q1' : 0 < (I p).length := by rw [I_len]; omega
            have HP0 := Lib.hid hp0
            clear hp0
            obtain ⟨v6, w6, hr6, ho6, hb6⟩ := copy_run w4 A1 c1 p (H1.out.below HBW.out) (by have := HLP.out; omega)
            have HR6 := Lib.hid hr6
            have HO6 := Lib.hid ho6
            have HB6 := Lib.hid hb6
            have HBW6 := Lib.hid (HBW.out.trans (hb6.mono HBW.out.size))
            obtain ⟨A6, c6, rfl, _, _⟩ := ho6.form
            clear hr6 ho6 hb6
            by_cases hq0 : q.length = 0
            · have q2 : ¬ (0 : Int) < ((I q).length : Int) := by rw [I_len]; omega
              have q2' : ¬ 0 < (I q).length := by rw [I_len]; omega
              have HQ0 := Lib.hid hq0
              clear hq0
              go_wp2_with (first
                | (at_builtin; refine wpList_append_ran rfl (.tmp 148) (.tmp 149) 24 rfl _ _ rfl rfl _ w6 HR6.out ?_))
              refine bodyPost_ret (results_4 rfl _ _) rfl ?_
              exact rcv_close HB9.out (HB4.out.trans (HB6.out.mono HB4.out.size)) HCX.out (own_lower HO6.out HB4.out.size) (own_belowB HV5.out HB6.out) (fun k hk h => by have a := (HO6.out.lt k hk).1; have b := (HV5.out.lt k h).2; omega) (by rw [← HR.out, if_neg HP0.out, if_pos HQ0.out])
            · have q2 : (0 : Int) < ((I q).length : Int) := by rw [I_len]; omega
              have q2' : 0 < (I q).length := by rw [I_len]; omega
              have HQ0 := Lib.hid hq0
              clear hq0
              obtain ⟨v7, w7, hr7, ho7, hb7⟩ := copy_run w6 A2 c2 q (H2.out.below HBW6.out) (by have := HLQ.out; omega)
              have HR7 := Lib.hid hr7
              have HO7 := Lib.hid ho7
              have HB7 := Lib.hid hb7
              obtain ⟨A7, c7, rfl, _, _⟩ := ho7.form
              clear hr7 ho7 hb7
              go_wp2_with (first
                | (at_builtin; refine wpList_append_ran rfl (.tmp 148) (.tmp 149) 24 rfl _ _ rfl rfl _ w6 HR6.out ?_)
                | (at_builtin; refine wpList_append_ran rfl (.tmp 154) (.tmp 155) 24 rfl _ _ rfl rfl _ w7 HR7.out ?_))
              refine bodyPost_ret (results_4 rfl _ _) rfl ?_
              have hb46 := HB4.out.trans (HB6.out.mono HB4.out.size)
              exact rcv_close HB9.out (hb46.trans (HB7.out.mono hb46.size)) HCX.out (own_lower (own_belowB HO6.out HB7.out) HB4.out.size) (own_lower HO7.out hb46.size) (fun k hk h => by have a := (HO6.out.lt k hk).2; have b := (HO7.out.lt k h).1; omega) (by rw [← HR.out, if_neg HP0.out, if_neg HQ0.out])
end Go.Proofs.Ythjodjfjeamilaa.Wd
