/- Recover, at every input; in the print's form. -/
import Derived.Test.YthjodjfjeamilaaRcv
set_option linter.unusedVariables false
set_option linter.unusedSimpArgs false
namespace Go.Proofs.Ythjodjfjeamilaa.Wd
open Go Go.RowKit Go.Proofs.YthjodjfjeamilaaW.PrintWords Go.Proofs.YthjodjfjeamilaaW.PrintLast Go.Proofs.YthjodjfjeamilaaW.PrintMore Go.Proofs.Ythjodjfjeamilaa.Bridge Go.Proofs.Ythjodjfjeamilaa.PA Go.Proofs.Ythjodjfjeamilaa.BrPA Go.Proofs.Ythjodjfjeamilaa.Pur
set_option maxRecDepth 100000 in
set_option maxHeartbeats 4000000 in
theorem recover_bad (w : World) (A0 : Option Addr) (c0 : Nat) (cs : List (List Nat)) (A1 : Option Addr) (c1 : Nat) (p : List Nat) (A2 : Option Addr) (c2 : Nat) (q : List Nat) (h0 : Kd.C (Kd.slice 5 (Kd.int .u8)) w A0 (II cs).length (II cs)) (k0 : (II cs).length ≤ c0) (h1 : RdB w A1 p) (k1 : (I p).length ≤ c1) (h2 : RdB w A2 q) (k2 : (I q).length ≤ c2)
    (n l : Nat) (hW : parity_width.f (II cs) (II [p, q]) = some ((n : Int), (l : Int))) (hbad : n = 0 ∨ (n ≠ 0 ∧ 2 < l)) :
    Calls Try.prog 20 #[.slice A0 (II cs).length c0, .slice A1 (I p).length c1, .slice A2 (I q).length c2] w (RcvPost w ([], [], [], if n = 0 then 1 else 8)) := by
  have hcl := cols_lit w [(A1, c1, p), (A2, c2, q)] (by intro x hx; simp at hx; rcases hx with rfl | rfl; exact ⟨h1, k1⟩; exact ⟨h2, k2⟩) (by simp)
  have B1 := balloc w (.cells #[.slice A1 (I p).length c1, .slice A2 (I q).length c2] 24)
  have HC : Hid (Calls Try.prog 22 #[.slice A0 (II cs).length c0, .slice (some ⟨w.heap.size, 0, none⟩) 2 2] (w.alloc (.cells #[.slice A1 (I p).length c1, .slice A2 (I q).length c2] 24)) fun e w' => e = .returned (.tuple #[.int .i64 (n : Int), .int .i64 (l : Int)]) ∧ Below (w.alloc (.cells #[.slice A1 (I p).length c1, .slice A2 (I q).length c2] 24)).heap.size (w.alloc (.cells #[.slice A1 (I p).length c1, .slice A2 (I q).length c2] 24)) w') :=
    Lib.hid (width_any _ A0 c0 cs (some ⟨w.heap.size, 0, none⟩) 2 [p, q] (Kd.C_below h0 B1) k0 hcl (by simp [II]) (by simp) _ _ hW)
  have HB1 := Lib.hid B1
  clear hcl B1 hW h0 h1 h2
  rcases hbad with rfl | ⟨hn, hl⟩
  · have e1 : (((0 : Nat) : Int) == 0) = true := rfl
    go_enter Try.func20, Try.ntmps20
    go_wp2_with (fail)
    refine (HC.out).mono ?_
    rintro e w2 ⟨rfl, hb⟩
    have HB2 := Lib.hid (HB1.out.trans (hb.mono HB1.out.size))
    clear hb HC HB1
    go_wp2_with (fail)
    refine bodyPost_ret (results_4 rfl _ _) rfl ?_
    exact RcvPost.nil HB2.out rfl
  · have e1 : ((n : Int) == 0) = false := bF (by omega)
    have e2 : decide ((2 : Int) < (l : Int)) = true := decide_eq_true (by omega)
    rw [if_neg hn]
    clear hn hl
    go_enter Try.func20, Try.ntmps20
    go_wp2_with (fail)
    refine (HC.out).mono ?_
    rintro e w2 ⟨rfl, hb⟩
    have HB2 := Lib.hid (HB1.out.trans (hb.mono HB1.out.size))
    clear hb HC HB1
    go_wp2_with (fail)
    refine bodyPost_ret (results_4 rfl _ _) rfl ?_
    exact RcvPost.nil HB2.out rfl
theorem width_rcv (cs : List (List Nat)) (p q : List Nat) : parity_width.f (II cs) (II [p, q]) = some (((rcvW cs p q).1 : Int), ((rcvW cs p q).2 : Int)) := by
  rw [width_f2 cs [p, q] (by simp)]
  unfold rcvW
  by_cases h : cs.length < 1 ∨ 30 < cs.length
  · rw [if_pos h, if_pos h]; rfl
  · rw [if_neg h, if_neg h]
theorem recover_any (w : World) (A0 : Option Addr) (c0 : Nat) (cs : List (List Nat)) (A1 : Option Addr) (c1 : Nat) (p : List Nat) (A2 : Option Addr) (c2 : Nat) (q : List Nat) (h0 : Kd.C (Kd.slice 5 (Kd.int .u8)) w A0 (II cs).length (II cs)) (k0 : (II cs).length ≤ c0) (h1 : RdB w A1 p) (k1 : (I p).length ≤ c1) (h2 : RdB w A2 q) (k2 : (I q).length ≤ c2)
    (b0 : Bytt cs) (b1 : Byt p) (b2 : Byt q) :
    Calls Try.prog 20 #[.slice A0 (II cs).length c0, .slice A1 (I p).length c1, .slice A2 (I q).length c2] w (RcvPost w (rcv cs p q)) := by
  have hW := width_rcv cs p q
  by_cases hz : (rcvW cs p q).1 = 0
  · have h := recover_bad w A0 c0 cs A1 c1 p A2 c2 q h0 k0 h1 k1 h2 k2 _ _ hW (.inl hz)
    unfold rcv
    rw [if_pos hz]
    rw [if_pos hz] at h
    exact h
  · by_cases hl : 2 < (rcvW cs p q).2
    · have h := recover_bad w A0 c0 cs A1 c1 p A2 c2 q h0 k0 h1 k1 h2 k2 _ _ hW (.inr ⟨hz, hl⟩)
      unfold rcv
      rw [if_neg hz, if_pos hl]
      rw [if_neg hz] at h
      exact h
    · have hw : ¬ (cs.length < 1 ∨ 30 < cs.length) := fun h => hz (by unfold rcvW; rw [if_pos h])
      have e : rcvW cs p q = wid (lens (cs ++ [p, q])) := by unfold rcvW; rw [if_neg hw]
      rcases wid_cases (lens (cs ++ [p, q])) with ⟨n, l, hs, _, h2'⟩ | ⟨_, _, h2'⟩
      · rw [e, h2'] at hl
        have h := recover_good w A0 c0 cs A1 c1 p A2 c2 q h0 k0 h1 k1 h2 k2 b0 b1 b2 n l (by omega) (by omega) hs (by simpa using hl)
        unfold rcv
        rw [if_neg hz, if_neg (by rw [e, h2']; exact hl), e, h2']
        exact h
      · exact absurd (by rw [e]; exact h2') hz
end Go.Proofs.Ythjodjfjeamilaa.Wd
namespace Go.Proofs.Ythjodjfjeamilaa.Pur
open Go Go.RowKit Go.Proofs.YthjodjfjeamilaaW.PrintWords Go.Proofs.YthjodjfjeamilaaW.PrintLast Go.Proofs.YthjodjfjeamilaaW.PrintMore Go.Proofs.Ythjodjfjeamilaa.PA
/-- Columns that are of bytes. -/
def okc (l : List (List Int)) : Bool := l.all okb
def nnn (l : List (List Int)) : List (List Nat) := l.map nn
theorem II_nnn {l : List (List Int)} (h : okc l = true) : II (nnn l) = l ∧ Bytt (nnn l) := by
  unfold okc at h
  rw [List.all_eq_true] at h
  constructor
  · unfold II nnn
    rw [List.map_map]
    conv => rhs; rw [← List.map_id l]
    exact List.map_congr_left fun x hx => (I_nn (h x hx)).1
  · intro c hc
    obtain ⟨x, hx, rfl⟩ := List.mem_map.1 hc
    exact (I_nn (h x hx)).2
theorem nnn_II (l : List (List Nat)) : nnn (II l) = l := by
  unfold II nnn
  rw [List.map_map]
  conv => rhs; rw [← List.map_id l]
  exact List.map_congr_left fun x _ => nn_I x
theorem okc_II {l : List (List Nat)} (h : Bytt l) : okc (II l) = true := by
  unfold okc II
  rw [List.all_eq_true]
  intro x hx
  obtain ⟨c, hc, rfl⟩ := List.mem_map.1 hx
  exact okb_I (h c hc)
end Go.Proofs.Ythjodjfjeamilaa.Pur
namespace Go.Proofs.Ythjodjfjeamilaa.PA
open Go Go.RowKit Go.Proofs.YthjodjfjeamilaaW.PrintWords Go.Proofs.YthjodjfjeamilaaW.PrintLast Go.Proofs.YthjodjfjeamilaaW.PrintMore Go.Proofs.Ythjodjfjeamilaa.Pur
/-- What Recover answers. -/
def parity_Recover.f (l0 : List (List Int)) (l1 l2 : List Int) : Option (List (List Int) × List Int × List Int × Int) :=
  if okc l0 && okb l1 && okb l2 then some (II (rcv (nnn l0) (nn l1) (nn l2)).1, I (rcv (nnn l0) (nn l1) (nn l2)).2.1, I (rcv (nnn l0) (nn l1) (nn l2)).2.2.1, (rcv (nnn l0) (nn l1) (nn l2)).2.2.2) else none
theorem parity_Recover.calls (A0 : Option Addr) (c0 : Nat) (l0 : List (List Int)) (A1 : Option Addr) (c1 : Nat) (l1 : List Int) (A2 : Option Addr) (c2 : Nat) (l2 : List Int) (r1 : List (List Int)) (r2 r3 : List Int) (r4 : Int) (w : World)
    (hr0 : Kd.C (Kd.slice 5 (Kd.int .u8)) w A0 l0.length l0) (hc0 : l0.length ≤ c0) (hr1 : Kd.C (Kd.int .u8) w A1 l1.length l1) (hc1 : l1.length ≤ c1) (hr2 : Kd.C (Kd.int .u8) w A2 l2.length l2) (hc2 : l2.length ≤ c2) (h : parity_Recover.f l0 l1 l2 = some (r1, r2, r3, r4)) :
    Calls Try.prog 20 #[.slice A0 l0.length c0, .slice A1 l1.length c1, .slice A2 l2.length c2] w fun e w' => ∃ v0_ v1_ v2_ : Value, e = .returned (.tuple #[v0_, v1_, v2_, .int .i64 r4]) ∧ Kd.S (Kd.slice 5 (Kd.int .u8)) 24 w' w.heap.size (fun k_ => some k_ ≠ (v1_ : Value).ownBlock ∧ some k_ ≠ (v2_ : Value).ownBlock) v0_ r1 ∧ Kd.R (Kd.int .u8) 5 w' w.heap.size (fun k_ => some k_ ≠ (v0_ : Value).ownBlock ∧ some k_ ≠ (v2_ : Value).ownBlock) v1_ r2 ∧ Kd.R (Kd.int .u8) 5 w' w.heap.size (fun k_ => some k_ ≠ (v0_ : Value).ownBlock ∧ some k_ ≠ (v1_ : Value).ownBlock) v2_ r3 ∧ Below w.heap.size w w' := by
  unfold parity_Recover.f at h
  by_cases hb : (okc l0 && okb l1 && okb l2) = true
  · rw [if_pos hb] at h
    simp only [Bool.and_eq_true] at hb
    obtain ⟨⟨h0, h1⟩, h2⟩ := hb
    obtain ⟨e0, y0⟩ := II_nnn h0
    obtain ⟨e1, y1⟩ := I_nn h1
    obtain ⟨e2, y2⟩ := I_nn h2
    simp only [Option.some.injEq, Prod.mk.injEq] at h
    obtain ⟨rfl, rfl, rfl, rfl⟩ := h
    generalize nnn l0 = cs at *
    generalize nn l1 = p at *
    generalize nn l2 = q at *
    subst e0 e1 e2
    refine (Wd.recover_any w A0 c0 cs A1 c1 p A2 c2 q hr0 hc0 hr1 hc1 hr2 hc2 y0 y1 y2).mono ?_
    rintro e w' ⟨v0, v1, v2, ys, he, g0, g1, g2, gy, g12, gb⟩
    have n1 : ∀ k, v0.ownBlock = some k → some k ≠ v1.ownBlock := g0.ne g1
    have n2 : ∀ k, v0.ownBlock = some k → some k ≠ v2.ownBlock := g0.ne g2
    exact ⟨v0, v1, v2, he, g0.S (fun k hk => ⟨n1 k hk, n2 k hk⟩) (fun j y k hy hk => ⟨fun h => (gy j y k hy hk).1 h.symm, fun h => (gy j y k hy hk).2 h.symm⟩),
      Wd.own_R g1 (fun k hk => ⟨fun h => n1 k h.symm hk.symm, fun h => g12 k hk h.symm⟩), Wd.own_R g2 (fun k hk => ⟨fun h => n2 k h.symm hk.symm, fun h => g12 k h.symm hk⟩), gb⟩
  · rw [if_neg hb] at h
    cases h
end Go.Proofs.Ythjodjfjeamilaa.PA
