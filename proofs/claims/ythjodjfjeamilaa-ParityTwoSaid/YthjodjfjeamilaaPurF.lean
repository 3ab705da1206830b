/- The statement ParityTwo, over columns of natural numbers. -/
import Derived.Test.YthjodjfjeamilaaPurE
import Derived.Test.YthjodjfjeamilaaPDx
import Derived.Test.YthjodjfjeamilaaBck
import Derived.Test.YthjodjfjeamilaaOpn
set_option linter.unusedVariables false
set_option linter.unusedSectionVars false
set_option linter.unusedSimpArgs false
namespace Go.Proofs.Ythjodjfjeamilaa.Pur
open Go Go.RowKit Go.Proofs.YthjodjfjeamilaaW.PrintWords Go.Proofs.YthjodjfjeamilaaW.PrintLast Go.Proofs.YthjodjfjeamilaaW.PrintMore Go.Proofs.Ythjodjfjeamilaa.Bridge Go.Proofs.Ythjodjfjeamilaa.PA Go.Proofs.Ythjodjfjeamilaa.PB Go.Proofs.Ythjodjfjeamilaa.PD Go.Proofs.Ythjodjfjeamilaa.BrPA
theorem precover_f {cs : List (List Nat)} {p q : List Nat} (hc : Bytt cs) (hp : Byt p) (hq : Byt q) : parity_Recover.f (II cs) (I p) (I q) = some (II (rcv cs p q).1, I (rcv cs p q).2.1, I (rcv cs p q).2.2.1, (rcv cs p q).2.2.2) := by
  unfold parity_Recover.f
  rw [if_pos (by rw [okc_II hc, okb_I hp, okb_I hq]; rfl), nnn_II, nn_I, nn_I]
theorem II_set (cs : List (List Nat)) (i : Nat) : (II cs).set i [] = II (cs.set i []) := by
  unfold II
  rw [List.map_set]
  rfl
theorem Lft.byt {cs ls : List (List Nat)} {n : Nat} {p q : List Nat} {l : Nat} (hc : Bytt cs) (h : Lft cs n ls p q l) : Bytt ls ∧ Byt p ∧ Byt q := by
  refine ⟨fun c hm => ?_, ?_, ?_⟩
  · obtain ⟨j, hj, rfl⟩ := List.getElem_of_mem hm
    have e : ls.getD j [] = ls[j] := by rw [List.getD_eq_getElem?_getD, List.getElem?_eq_getElem hj]; rfl
    rw [← e]
    rcases h.el j with h1 | h1
    · rw [h1]; exact bytt_get hc j
    · rw [h1]; intro x hx; cases hx
  · rcases h.hp with h1 | h1
    · rw [h1]; exact tab_byt fun k _ => wP_lt hc k
    · rw [h1]; intro x hx; cases hx
  · rcases h.hq with h1 | h1
    · rw [h1]; exact tab_byt fun k _ => wQ_lt hc k
    · rw [h1]; intro x hx; cases hx
section
variable (cs : List (List Nat)) (n : Nat) (hg : Good cs n) (hc : Bytt cs) (a1 a2 : Nat) (h1 : a1 < 256) (h2 : a2 < 256)
include hg
theorem two_j1 (ls : List (List Nat)) (p q : List Nat) (l : Nat) (h : Lft cs n ls p q l) (i a : Nat) (hi : i < 2) (v : Bool)
    (hn : Ev (fun k => ravelinlaw05_ParityTwo.l0 k (II cs) (a1 : Int) (a2 : Int) (I (tab n (wP cs))) (I (tab n (wQ cs))) ((II cs).length : Int) (II (if a < cs.length then ls.set a [] else ls)) (I (if a = cs.length then [] else p)) (I (if cs.length < a then [] else q)) ((i + 1 : Nat) : Int)) v) :
    Ev (fun k => ravelinlaw05_ParityTwo.j1 k (II cs) (a1 : Int) (a2 : Int) (I (tab n (wP cs))) (I (tab n (wQ cs))) ((II cs).length : Int) (II ls) (I p) (I q) (i : Int) (a : Int)) v := by
  have hw : wrap64 ((i : Int) + 1) = ((i + 1 : Nat) : Int) := by rw [show (i : Int) + 1 = ((i + 1 : Nat) : Int) by omega, wrap64_nat _ (by omega)]
  refine Ev.step (f := fun k => _) (fun k => by rw [ravelinlaw05_ParityTwo.j1]) ?_
  rw [hw]
  rcases Nat.lt_trichotomy a cs.length with ha | ha | ha
  · rw [if_pos ha, if_neg (by omega), if_neg (by omega)] at hn
    refine Ev.ite_pos (by rw [II_len]; omega) (Ev.ite_pos (by omega) (Ev.ite_pos (by rw [II_len, h.len]; omega) ?_))
    rw [Int.toNat_natCast, II_set]
    exact hn
  · rw [if_neg (by omega), if_pos ha, if_neg (by omega)] at hn
    exact Ev.ite_neg (by rw [II_len]; omega) (Ev.ite_pos (by rw [II_len]; omega) hn)
  · rw [if_neg (by omega), if_neg (by omega), if_pos ha] at hn
    exact Ev.ite_neg (by rw [II_len]; omega) (Ev.ite_neg (by rw [II_len]; omega) hn)
include h1 h2
theorem two_step (ls : List (List Nat)) (p q : List Nat) (l : Nat) (h : Lft cs n ls p q l) (i : Nat) (hi : i < 2) (v : Bool)
    (hn : ∀ ls' p' q', Lft cs n ls' p' q' (l + 1) → Ev (fun k => ravelinlaw05_ParityTwo.l0 k (II cs) (a1 : Int) (a2 : Int) (I (tab n (wP cs))) (I (tab n (wQ cs))) ((II cs).length : Int) (II ls') (I p') (I q') ((i + 1 : Nat) : Int)) v) :
    Ev (fun k => ravelinlaw05_ParityTwo.l0 k (II cs) (a1 : Int) (a2 : Int) (I (tab n (wP cs))) (I (tab n (wQ cs))) ((II cs).length : Int) (II ls) (I p) (I q) (i : Int)) v := by
  have hlo := hg.lo
  have hhi := hg.hi
  have hw : wrap64 (((II cs).length : Int) + 2) = ((cs.length + 2 : Nat) : Int) := by rw [II_len, show (cs.length : Int) + 2 = ((cs.length + 2 : Nat) : Int) by omega, wrap64_nat _ (by omega)]
  have hm : ∀ a : Nat, a < 256 → Int.tmod (wrap64 (a : Int)) ((cs.length + 2 : Nat) : Int) = ((a % (cs.length + 2) : Nat) : Int) := fun a ha => by
    rw [wrap64_nat _ (by omega)]
    rfl
  refine Ev.step (f := fun k => _) (fun k => by rw [ravelinlaw05_ParityTwo.l0]) ?_
  rw [hw]
  refine Ev.ite_pos (by omega) (Ev.ite_neg (by omega) ?_)
  by_cases hx : i = 1
  · refine Ev.ite_pos (by omega) ?_
    rw [hm a2 h2]
    exact two_j1 cs n hg a1 a2 ls p q l h i _ hi v (hn _ _ _ (h.more _))
  · refine Ev.ite_neg (by omega) ?_
    rw [hm a1 h1]
    exact two_j1 cs n hg a1 a2 ls p q l h i _ hi v (hn _ _ _ (h.more _))
omit h1 h2
include hc
theorem two_j2 : Ev (fun k => ravelinlaw05_ParityTwo.j2 k (II cs) (I (tab n (wP cs))) (I (tab n (wQ cs))) (II cs) (I (tab n (wP cs))) (I (tab n (wQ cs))) 0 false) true := by
  have hb : ∀ f, (I (tab n f)).length < 4611686018427387904 := fun f => by rw [I_len, tab_len]; have := hg.snd.lim; omega
  refine Ev.step (f := fun k => _) (fun k => by rw [ravelinlaw05_ParityTwo.j2]) ?_
  refine Ev.ite_neg (by decide) (Ev.ite_pos rfl ?_)
  refine Ev.bind (cols_ev (II cs) (II cs) (by rw [II_len]; have := hg.hi; omega) (fun c hm => ?_)) ?_
  · obtain ⟨d, hd, rfl⟩ := List.mem_map.1 hm
    rw [I_len, hg.len d hd]
    have := hg.snd.lim
    omega
  rw [decide_eq_true rfl]
  refine Ev.ite_pos rfl (Ev.bind (lsame_ev _ _ (hb _)) ?_)
  rw [decide_eq_true rfl]
  refine Ev.ite_pos rfl (Ev.bind (lsame_ev _ _ (hb _)) ?_)
  rw [decide_eq_true rfl]
  exact Ev.now _
theorem two_end (ls : List (List Nat)) (p q : List Nat) (h : Lft cs n ls p q 2) :
    Ev (fun k => ravelinlaw05_ParityTwo.l0 k (II cs) (a1 : Int) (a2 : Int) (I (tab n (wP cs))) (I (tab n (wQ cs))) ((II cs).length : Int) (II ls) (I p) (I q) ((2 : Nat) : Int)) true := by
  obtain ⟨y0, y1, y2⟩ := h.byt hc
  have J := two_j2 cs n hg hc
  refine Ev.step (f := fun k => _) (fun k => by rw [ravelinlaw05_ParityTwo.l0]) ?_
  refine Ev.ite_neg (by decide) ?_
  rw [precover_f y0 y1 y2, rcv_back hg hc h]
  simp only [Option.bind_some]
  by_cases hm : cs.length = 1
  · refine Ev.ite_pos (by rw [II_len]; omega) (Ev.ite_pos (by rw [II_len, h.len]; omega) ?_)
    rw [show (0 : Int) = ((0 : Nat) : Int) from rfl, rd_II, I_len]
    by_cases hl : (ls.getD 0 []).length = 0
    · refine Ev.ite_pos (by omega) ?_
      by_cases hp : p.length = 0
      · refine Ev.ite_pos (by rw [I_len]; omega) ?_
        have hq : q.length ≠ 0 := by
          intro hq
          have hcnt := h.cnt
          rw [lens_two, if_pos hp, if_pos hq] at hcnt
          have hmem := mem_gone (cs := ls) (j := 0) (by rw [h.len]; omega) hl
          have := List.length_pos_of_mem hmem
          omega
        have e : (((I q).length : Int) == 0) = false := by rw [I_len]; exact beq_false_of_ne (by omega)
        rw [show ((0 : Nat) : Int) = (0 : Int) from rfl, e]
        exact J
      · exact Ev.ite_neg (by rw [I_len]; omega) J
    · exact Ev.ite_neg (by omega) J
  · exact Ev.ite_neg (by rw [II_len]; omega) J
end
theorem two_true (cs : List (List Nat)) (hc : Bytt cs) (hn : cs.length * 24 ≤ 140737488351232) (hl : ∀ c ∈ cs, c.length ≤ 140737488351232) (a1 a2 : Nat) (h1 : a1 < 256) (h2 : a2 < 256) : Ev (fun k => ravelinlaw05_ParityTwo.f k (II cs) (a1 : Int) (a2 : Int)) true := by
  have hcol : ∀ c ∈ II cs, c.length < 140737488355328 := by
    intro c hc
    obtain ⟨d, hd, rfl⟩ := List.mem_map.1 hc
    rw [I_len]
    have := hl d hd
    omega
  unfold ravelinlaw05_ParityTwo.f
  refine Ev.bind awake_ev (Ev.ite_pos rfl ?_)
  by_cases hg : ∃ n, Good cs n
  · obtain ⟨n, hg⟩ := hg
    have hb : ∀ f, ([] : List Int).length + (I (tab n f)).length < 140737488355328 := fun f => by rw [I_len, tab_len]; have := hg.snd.lim; simp; omega
    refine Ev.bind (encode_ok cs n hc hg) (Ev.ite_pos rfl (Ev.bind (copies_ev (II cs) (by rw [II_len]; omega) hcol) ?_))
    simp only [Option.bind_some]
    refine Ev.ite_pos (hb _) (Ev.ite_pos (hb _) ?_)
    exact two_step cs n hg a1 a2 h1 h2 _ _ _ 0 (Lft.start hg) 0 (by omega) true fun ls' p' q' h' => two_step cs n hg a1 a2 h1 h2 _ _ _ 1 h' 1 (by omega) true fun ls2 p2 q2 h2' => two_end cs n hg hc a1 a2 ls2 p2 q2 h2'
  · refine Ev.bind (encode_bad cs fun n h => hg ⟨n, h⟩) (Ev.ite_neg (by decide) (Ev.ite_pos rfl (Ev.now _)))
theorem two_walk (A0 : Option Addr) (c0 : Nat) (cs : List (List Nat)) (i j : Int) (w : World) (hi : (Lit.int .u8 i).wf = true) (hj : (Lit.int .u8 j).wf = true) (hr0 : Kd.C (Kd.slice 5 (Kd.int .u8)) w A0 (II cs).length (II cs)) (hc0 : (II cs).length ≤ c0) (hcs : Bytt cs) (hn : cs.length * 24 ≤ 140737488351232) (hl : ∀ c ∈ cs, c.length ≤ 140737488351232) :
    Calls Try.prog 9 #[.slice A0 (II cs).length c0, .int .u8 i, .int .u8 j] w fun e w' => e = .returned (.bool true) ∧ Below w.heap.size w w' := by
  obtain ⟨a1, rfl, l1⟩ := Go.Proofs.Ythjodjfjeamilaa.Bridge.wf_u8 hi
  obtain ⟨a2, rfl, l2⟩ := Go.Proofs.Ythjodjfjeamilaa.Bridge.wf_u8 hj
  obtain ⟨k, hk⟩ := (two_true cs hcs hn hl a1 a2 (by omega) (by omega)).rounds
  exact ravelinlaw05_ParityTwo.calls k A0 c0 (II cs) a1 a2 true w hr0 hc0 hk
end Go.Proofs.Ythjodjfjeamilaa.Pur
