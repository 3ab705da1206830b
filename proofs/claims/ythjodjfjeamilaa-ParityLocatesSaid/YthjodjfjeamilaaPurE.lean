/- Encode, and the statement ParityEncodes, over columns of natural numbers. -/
import Derived.Test.YthjodjfjeamilaaPurB
import Derived.Test.YthjodjfjeamilaaPBx
set_option linter.unusedVariables false
set_option linter.unusedSimpArgs false
namespace Go.Proofs.Ythjodjfjeamilaa.Pur
open Go Go.RowKit Go.Proofs.YthjodjfjeamilaaW.PrintWords Go.Proofs.YthjodjfjeamilaaW.PrintLast Go.Proofs.YthjodjfjeamilaaW.PrintMore Go.Proofs.Ythjodjfjeamilaa.Bridge Go.Proofs.Ythjodjfjeamilaa.PA Go.Proofs.Ythjodjfjeamilaa.PB Go.Proofs.Ythjodjfjeamilaa.BrPA
theorem lens2_II (cs : List (List Nat)) : Wd.lens2 (II cs) = lens cs := by
  unfold Wd.lens2 II lens
  rw [List.map_map]
  apply List.map_congr_left
  intro c _
  exact I_len c
/-- What width says of columns, and of more behind them. -/
theorem width_f (cs : List (List Nat)) (ms : List (List Nat)) (hm : ms.length ≤ 2) : parity_width.f (II cs) (II ms) = some (if cs.length < 1 ∨ 30 < cs.length then (0, 0) else (((wid (lens (cs ++ ms))).1 : Int), ((wid (lens (cs ++ ms))).2 : Int))) := by
  unfold parity_width.f
  rw [II_len, II_len, if_pos hm]
  have e : II cs ++ II ms = II (cs ++ ms) := by unfold II; rw [List.map_append]
  rw [e, lens2_II]
theorem wid_snd {ls : List Nat} {n l : Nat} (h : Snd ls n l) : wid ls = (n, l) := by
  rcases wid_cases ls with ⟨m, k, hs, _, h2⟩ | ⟨h1, _⟩
  · have e1 : m = n := by
      rcases hs.all n h.mem with h0 | h0
      · have := h.pos; omega
      · exact h0.symm
    have e2 : k = l := by rw [hs.lost, h.lost]
    rw [h2, e1, e2]
  · exact absurd h (h1 n l)
theorem widR_eq {ls : List Nat} {n l : Nat} (h : Snd ls n l) : widR ls 0 0 = (n, l) := by
  rw [widR_snd n h.pos h.lim ls 0 0 (.inl rfl) h.all (.inr h.mem), h.lost, Nat.zero_add]
theorem encode_ok (cs : List (List Nat)) (n : Nat) (hc : Bytt cs) (hg : Good cs n) :
    Ev (fun k => parity_Encode.f k (II cs)) (I (tab n (wP cs)), I (tab n (wQ cs)), (0 : Int)) := by
  unfold parity_Encode.f
  have hw := width_f cs [] (by simp)
  rw [show (II [] : List (List Int)) = [] from rfl, List.append_nil, if_neg (by have := hg.lo; have := hg.hi; omega), wid_snd hg.snd] at hw
  rw [hw]
  simp only [Option.bind_some]
  have := hg.snd.pos
  refine Ev.ite_neg (by omega) (Ev.ite_neg (by omega) ?_)
  exact Ev.bind (sums_ev n cs hc (fun c hm => by rw [hg.len c hm]; exact Nat.le_refl _) hg.snd.lim (by have := hg.hi; omega)) (Ev.now _)
theorem encode_bad (cs : List (List Nat)) (hg : ∀ n, ¬ Good cs n) :
    Ev (fun k => parity_Encode.f k (II cs)) (([] : List Int), ([] : List Int), (1 : Int)) := by
  unfold parity_Encode.f
  have hw := width_f cs [] (by simp)
  rw [show (II [] : List (List Int)) = [] from rfl, List.append_nil] at hw
  rw [hw]
  simp only [Option.bind_some]
  by_cases hf : cs.length < 1 ∨ 30 < cs.length
  · rw [if_pos hf]
    exact Ev.ite_pos rfl (Ev.now _)
  · rw [if_neg hf]
    rcases wid_cases (lens cs) with ⟨m, k, hs, _, h2⟩ | ⟨_, _, h2⟩
    · have hk : k ≠ 0 := by
        rintro rfl
        exact hg m ⟨by omega, by omega, hs⟩
      rw [h2]
      have := hs.pos
      refine Ev.ite_neg (by simp only; omega) (Ev.ite_pos (by simp only; omega) (Ev.now _))
    · exact Ev.ite_pos (by simp only; omega) (Ev.now _)
theorem awake_ev : Ev (fun k => ravelinlaw05_awake.f k) true := by
  have hg : Good [[1], [2], [4]] 1 := Good.of (by decide) (by decide) (by decide) (by decide) (by intro c hc; simp at hc; rcases hc with rfl | rfl | rfl <;> rfl)
  have h := encode_ok [[1], [2], [4]] 1 (by intro c hc; simp at hc; rcases hc with rfl | rfl | rfl <;> (intro x hx; simp at hx; omega)) hg
  have e1 : I (tab 1 (wP [[1], [2], [4]])) = [7] := by decide
  have e2 : I (tab 1 (wQ [[1], [2], [4]])) = [21] := by decide
  rw [e1, e2] at h
  unfold ravelinlaw05_awake.f
  refine Ev.bind h ?_
  exact ⟨0, fun k _ => rfl⟩
theorem encodes_true (cs : List (List Nat)) (hc : Bytt cs) (hn : cs.length * 24 ≤ 140737488351232) (hl : ∀ c ∈ cs, c.length ≤ 140737488351232) : Ev (fun k => ravelinlaw05_ParityEncodes.f k (II cs)) true := by
  have hcol : ∀ c ∈ II cs, c.length < 140737488355328 := by
    intro c hc
    obtain ⟨d, hd, rfl⟩ := List.mem_map.1 hc
    rw [I_len]
    have := hl d hd
    omega
  unfold ravelinlaw05_ParityEncodes.f
  refine Ev.bind (copies_ev (II cs) (by rw [II_len]; omega) hcol) ?_
  have fin : ∀ (p q : List Int) (x : Int), p.length ≤ 4096 → q.length ≤ 4096 → Ev (fun k => (ravelinlaw05_awake.f k).bind fun t148 => (if t148 = true then ((ravelinlaw05_same.f k p p).bind fun t149 => (if t149 = true then ((ravelinlaw05_same.f k q q).bind fun t150 => (if t150 = true then (if x = x then ((ravelinref05_SameCols.f k (II cs) (II cs)).bind fun t151 => (some t151)) else (some false)) else (some false))) else (some false))) else (some false))) true := by
    intro p q x hp hq
    refine Ev.bind awake_ev (Ev.ite_pos rfl (Ev.bind (lsame_ev p p (by omega)) ?_))
    rw [decide_eq_true rfl]
    refine Ev.ite_pos rfl (Ev.bind (lsame_ev q q (by omega)) ?_)
    rw [decide_eq_true rfl]
    refine Ev.ite_pos rfl (Ev.ite_pos rfl (Ev.bind (cols_ev (II cs) (II cs) (by rw [II_len]; omega) (fun c hc => by have := hcol c hc; omega)) ?_))
    rw [decide_eq_true rfl]
    exact Ev.now _
  by_cases hg : ∃ n, Good cs n
  · obtain ⟨n, hg⟩ := hg
    refine Ev.bind (encode_ok cs n hc hg) (Ev.bind (renc_ok cs n hc hg) ?_)
    exact fin _ _ _ (by rw [I_len, tab_len]; exact hg.snd.lim) (by rw [I_len, tab_len]; exact hg.snd.lim)
  · have hg' : ∀ n, ¬ Good cs n := fun n h => hg ⟨n, h⟩
    refine Ev.bind (encode_bad cs hg') (Ev.bind (renc_bad cs (fun c hm => by have := hl c hm; omega) (by omega) hg') ?_)
    exact fin _ _ _ (by simp) (by simp)
end Go.Proofs.Ythjodjfjeamilaa.Pur
