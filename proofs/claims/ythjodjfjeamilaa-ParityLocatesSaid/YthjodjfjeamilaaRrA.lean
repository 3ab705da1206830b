/- The document's Recover, at every input of a machine's size; in the print's form. -/
import Derived.Test.YthjodjfjeamilaaRrc
set_option linter.unusedVariables false
set_option linter.unusedSimpArgs false
namespace Go.Proofs.Ythjodjfjeamilaa.Wd
open Go Go.RowKit Go.Proofs.YthjodjfjeamilaaW.PrintWords Go.Proofs.YthjodjfjeamilaaW.PrintLast Go.Proofs.YthjodjfjeamilaaW.PrintMore Go.Proofs.Ythjodjfjeamilaa.Bridge Go.Proofs.Ythjodjfjeamilaa.PA Go.Proofs.Ythjodjfjeamilaa.BrPA Go.Proofs.Ythjodjfjeamilaa.Pur
theorem rrecover_any (w : World) (A0 : Option Addr) (c0 : Nat) (cs : List (List Nat)) (A1 : Option Addr) (c1 : Nat) (p : List Nat) (A2 : Option Addr) (c2 : Nat) (q : List Nat) (h0 : Kd.C (Kd.slice 5 (Kd.int .u8)) w A0 (II cs).length (II cs)) (k0 : (II cs).length ≤ c0) (h1 : RdB w A1 p) (k1 : (I p).length ≤ c1) (h2 : RdB w A2 q) (k2 : (I q).length ≤ c2)
    (b0 : Bytt cs) (b1 : Byt p) (b2 : Byt q) (hn : cs.length + 2 < 5864062014805) (hcl : ∀ c ∈ cs ++ [p, q], c.length < 4611686018427387904) :
    Calls Try.prog 21 #[.slice A0 (II cs).length c0, .slice A1 (I p).length c1, .slice A2 (I q).length c2] w (RcvPost w (rcv cs p q)) := by
  have bad := fun (n l : Nat) (b : Bool) hb hW (x : Int) hbad => rrecover_bad w A0 c0 cs A1 c1 p A2 c2 q h0 k0 h1 k1 h2 k2 hn hcl n l b hb hW x hbad
  by_cases hw : cs.length < 1 ∨ 30 < cs.length
  · have e : rcvW cs p q = (0, 0) := by unfold rcvW; rw [if_pos hw]
    unfold rcv
    rw [e, if_pos rfl]
    exact bad _ _ false (by rw [eq_comm, decide_eq_false_iff_not]; omega) rfl 1 (.inl ⟨.inl rfl, rfl⟩)
  · have e : rcvW cs p q = wid (lens (cs ++ [p, q])) := by unfold rcvW; rw [if_neg hw]
    have hb : true = decide (1 ≤ cs.length ∧ cs.length ≤ 30) := by rw [eq_comm, decide_eq_true_iff]; omega
    rcases wid_cases (lens (cs ++ [p, q])) with ⟨n, l, hs, h1', h2'⟩ | ⟨_, h1', h2'⟩
    · have hp := hs.pos
      unfold rcv
      rw [e, h2', if_neg (by simp only; omega)]
      by_cases hl : 2 < l
      · rw [if_pos (by simpa using hl)]
        exact bad n l true hb h1' 8 (.inr ⟨rfl, by omega, hl, rfl⟩)
      · rw [if_neg (by simpa using hl)]
        exact rrecover_good w A0 c0 cs A1 c1 p A2 c2 q h0 k0 h1 k1 h2 k2 b0 b1 b2 n l (by omega) (by omega) hs (by omega)
    · unfold rcv
      rw [e, if_pos h2']
      exact bad _ _ true hb (Prod.ext_iff.2 ⟨h1', rfl⟩) 1 (.inl ⟨.inr rfl, rfl⟩)
end Go.Proofs.Ythjodjfjeamilaa.Wd
namespace Go.Proofs.Ythjodjfjeamilaa.PA
open Go Go.RowKit Go.Proofs.YthjodjfjeamilaaW.PrintWords Go.Proofs.YthjodjfjeamilaaW.PrintLast Go.Proofs.YthjodjfjeamilaaW.PrintMore Go.Proofs.Ythjodjfjeamilaa.Pur
/-- Of a machine's size. -/
def szL (l : List (List Int)) : Bool := decide (l.length + 2 < 5864062014805) && l.all fun c => decide (c.length < 4611686018427387904)
def szB (l : List Int) : Bool := decide (l.length < 4611686018427387904)
/-- What the document's Recover answers. -/
def ravelinref05_Recover.f (l0 : List (List Int)) (l1 l2 : List Int) : Option (List (List Int) × List Int × List Int × Int) :=
  if szL l0 && szB l1 && szB l2 then parity_Recover.f l0 l1 l2 else none
theorem ravelinref05_Recover.calls (A0 : Option Addr) (c0 : Nat) (l0 : List (List Int)) (A1 : Option Addr) (c1 : Nat) (l1 : List Int) (A2 : Option Addr) (c2 : Nat) (l2 : List Int) (r1 : List (List Int)) (r2 r3 : List Int) (r4 : Int) (w : World)
    (hr0 : Kd.C (Kd.slice 5 (Kd.int .u8)) w A0 l0.length l0) (hc0 : l0.length ≤ c0) (hr1 : Kd.C (Kd.int .u8) w A1 l1.length l1) (hc1 : l1.length ≤ c1) (hr2 : Kd.C (Kd.int .u8) w A2 l2.length l2) (hc2 : l2.length ≤ c2) (h : ravelinref05_Recover.f l0 l1 l2 = some (r1, r2, r3, r4)) :
    Calls Try.prog 21 #[.slice A0 l0.length c0, .slice A1 l1.length c1, .slice A2 l2.length c2] w fun e w' => ∃ v0_ v1_ v2_ : Value, e = .returned (.tuple #[v0_, v1_, v2_, .int .i64 r4]) ∧ Kd.S (Kd.slice 5 (Kd.int .u8)) 24 w' w.heap.size (fun k_ => some k_ ≠ (v1_ : Value).ownBlock ∧ some k_ ≠ (v2_ : Value).ownBlock) v0_ r1 ∧ Kd.R (Kd.int .u8) 5 w' w.heap.size (fun k_ => some k_ ≠ (v0_ : Value).ownBlock ∧ some k_ ≠ (v2_ : Value).ownBlock) v1_ r2 ∧ Kd.R (Kd.int .u8) 5 w' w.heap.size (fun k_ => some k_ ≠ (v0_ : Value).ownBlock ∧ some k_ ≠ (v1_ : Value).ownBlock) v2_ r3 ∧ Below w.heap.size w w' := by
  unfold ravelinref05_Recover.f at h
  by_cases hsz : (szL l0 && szB l1 && szB l2) = true
  · rw [if_pos hsz] at h
    unfold parity_Recover.f at h
    by_cases hb : (okc l0 && okb l1 && okb l2) = true
    · rw [if_pos hb] at h
      simp only [Bool.and_eq_true] at hb hsz
      obtain ⟨⟨h0, h1⟩, h2⟩ := hb
      obtain ⟨⟨s0, s1⟩, s2⟩ := hsz
      obtain ⟨e0, y0⟩ := II_nnn h0
      obtain ⟨e1, y1⟩ := I_nn h1
      obtain ⟨e2, y2⟩ := I_nn h2
      simp only [Option.some.injEq, Prod.mk.injEq] at h
      obtain ⟨rfl, rfl, rfl, rfl⟩ := h
      generalize nnn l0 = cs at *
      generalize nn l1 = p at *
      generalize nn l2 = q at *
      subst e0 e1 e2
      unfold szL at s0
      unfold szB at s1 s2
      rw [Bool.and_eq_true, decide_eq_true_iff, II_len, List.all_eq_true] at s0
      rw [decide_eq_true_iff, I_len] at s1 s2
      have hcl : ∀ c ∈ cs ++ [p, q], c.length < 4611686018427387904 := by
        intro c hc
        simp at hc
        rcases hc with hc | rfl | rfl
        · have := s0.2 (I c) (List.mem_map.2 ⟨c, hc, rfl⟩)
          rw [decide_eq_true_iff, I_len] at this
          exact this
        · exact s1
        · exact s2
      refine (Wd.rrecover_any w A0 c0 cs A1 c1 p A2 c2 q hr0 hc0 hr1 hc1 hr2 hc2 y0 y1 y2 s0.1 hcl).mono ?_
      rintro e w' ⟨v0, v1, v2, ys, he, g0, g1, g2, gy, g12, gb⟩
      have n1 : ∀ k, v0.ownBlock = some k → some k ≠ v1.ownBlock := g0.ne g1
      have n2 : ∀ k, v0.ownBlock = some k → some k ≠ v2.ownBlock := g0.ne g2
      exact ⟨v0, v1, v2, he, g0.S (fun k hk => ⟨n1 k hk, n2 k hk⟩) (fun j y k hy hk => ⟨fun h => (gy j y k hy hk).1 h.symm, fun h => (gy j y k hy hk).2 h.symm⟩),
        Wd.own_R g1 (fun k hk => ⟨fun h => n1 k h.symm hk.symm, fun h => g12 k hk h.symm⟩), Wd.own_R g2 (fun k hk => ⟨fun h => n2 k h.symm hk.symm, fun h => g12 k h.symm hk⟩), gb⟩
    · rw [if_neg hb] at h
      cases h
  · rw [if_neg hsz] at h
    cases h
end Go.Proofs.Ythjodjfjeamilaa.PA
