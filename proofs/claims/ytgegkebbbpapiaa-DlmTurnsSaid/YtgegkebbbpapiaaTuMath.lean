/- Plain mathematics for DlmTurns: when tickets are given back one by one, the first each time. -/
import Derived.Test.YtgegkebbbpapiaaBools
namespace Go.Proofs.Ytgegkebbbpapiaa.Dlm
set_option linter.unusedVariables false
/-- The first i are gone. -/
def pre (n i : Nat) : List Bool := (List.range n).map fun j => decide (j < i)
theorem pre_length (n i : Nat) : (pre n i).length = n := by simp [pre]
theorem pre_zero (n : Nat) : pre n 0 = List.replicate n false := by simp [pre, List.map_const']
theorem pre_set (n i : Nat) : (pre n i).set i true = pre n (i + 1) := by
  apply List.ext_getElem?
  intro a
  rw [List.getElem?_set, pre_length]
  unfold pre
  rw [List.getElem?_map, List.getElem?_map]
  by_cases ha : a < n
  · rw [List.getElem?_range ha]
    by_cases hx : i = a
    · subst hx; simp [ha]
    · rw [if_neg hx]
      have : decide (a < i) = decide (a < i + 1) := by
        by_cases h : a < i
        · rw [decide_eq_true h, decide_eq_true (by omega)]
        · rw [decide_eq_false h, decide_eq_false (by omega)]
      simp [this]
  · have h2 : (List.range n)[a]? = none := List.getElem?_eq_none (by simp; omega)
    rw [h2]
    split
    · rename_i e
      subst e
      rw [if_neg ha]
      rfl
    · rfl
theorem gf_pre {n i j : Nat} (h : j < n) : gf (pre n i) j = decide (j < i) := by
  unfold gf pre
  rw [List.getD_eq_getElem?_getD, List.getElem?_map, List.getElem?_range h]
  rfl
section
variable {G : List Op5}
theorem gr_pre_lt {i j : Nat} (hj : j < G.length) (h : j < i) : gr G (pre G.length i) j = false := by
  unfold gr; rw [gf_pre hj, decide_eq_true h]; rfl
theorem gr_pre_ge {i j : Nat} (hj : j < G.length) (h : gr G (pre G.length i) j = true) : i ≤ j := by
  rcases Nat.lt_or_ge j i with hlt | hge
  · rw [gr_pre_lt hj hlt] at h; cases h
  · exact hge
theorem gr_pre_at {i : Nat} (hi : i < G.length) : gr G (pre G.length i) i = true := by
  apply first_gr
  · unfold firstTo
    rw [List.all_eq_true]
    intro j hj
    rw [List.mem_range] at hj
    rw [gf_pre (by omega), decide_eq_true hj]
  · rw [gf_pre hi]; exact decide_eq_false (by omega)
theorem gr_pre_conf {i a b : Nat} (ha : a < G.length) (hb : b < a) (h : gr G (pre G.length i) a = true) (hc : cfl G b a = true) : b < i := by
  unfold gr at h
  rw [Bool.and_eq_true] at h
  have h3 : waits G (pre G.length i) a = false := by simpa using h.2
  unfold waits at h3
  rw [List.any_eq_false] at h3
  have := h3 b (List.mem_range.2 hb)
  rw [hc, gf_pre (by omega)] at this
  simpa using this
/-- The granted of round i. -/
def GL (G : List Op5) (i : Nat) : List Nat := those (TG G (pre G.length i)) 2 G.length
theorem GL_eq (i : Nat) : GL G i = (List.range G.length).filter (gr G (pre G.length i)) := those_TG (pre_length _ _)
theorem GL_at {i m x : Nat} (h : (GL G i)[m]? = some x) : x < G.length ∧ gr G (pre G.length i) x = true := by
  have hm := List.mem_of_getElem? h
  rw [GL_eq, List.mem_filter, List.mem_range] at hm
  exact hm
theorem GL_first {i : Nat} (hi : i < G.length) : (GL G i)[0]? = some i := by
  rw [← List.head?_eq_getElem?, GL_eq, List.head?_filter, List.find?_range_eq_some]
  refine ⟨gr_pre_at hi, List.mem_range.2 hi, fun j hj => ?_⟩
  rw [gr_pre_lt (by omega) hj]; rfl
theorem GL_end : GL G G.length = [] := by
  rw [GL_eq, List.filter_eq_nil_iff]
  intro j hj
  rw [List.mem_range] at hj
  rw [gr_pre_lt hj hj]; decide
theorem WL_end : those (TG G (pre G.length G.length)) 1 G.length = [] := by
  unfold those
  rw [List.filter_eq_nil_iff]
  intro j hj
  rw [List.mem_range] at hj
  rw [st_TG (pre_length _ _) hj, gf_pre hj, decide_eq_true hj, if_pos rfl]
  decide
/-- What is seen, k's place. -/
def sn (s : List Int) (k : Nat) : Int := s.getD k 0
theorem sn_at {s : List Int} {k : Nat} (h : k < s.length) : s[k]? = some (sn s k) := by
  rw [List.getElem?_eq_getElem h]; simp [sn, List.getD_eq_getElem?_getD, h]
theorem sn_set {s : List Int} {k j : Nat} {x : Int} (h : k < s.length) : sn (s.set k x) j = if k = j then x else sn s j := by
  unfold sn
  rw [List.getD_eq_getElem?_getD, List.getElem?_set]
  by_cases e : k = j
  · rw [if_pos e, if_pos e, if_pos h]; rfl
  · rw [if_neg e, if_neg e, ← List.getD_eq_getElem?_getD]
/-- Behind i rounds. -/
def Seen (G : List Op5) (i : Nat) (s : List Int) : Prop :=
  ∀ k, k < G.length → (sn s k = 0 ∧ i ≤ k) ∨ ∃ r, r < i ∧ sn s k = (r : Int) + 1 ∧ gr G (pre G.length r) k = true
/-- Inside a round, behind m of the granted. -/
def Seeing (G : List Op5) (i m : Nat) (s0 s : List Int) : Prop :=
  (∀ k, k < G.length → sn s k = sn s0 k ∨ (sn s0 k = 0 ∧ sn s k = (i : Int) + 1 ∧ gr G (pre G.length i) k = true)) ∧ (0 < m → sn s i ≠ 0)
theorem seen_start : Seen G 0 (List.replicate G.length 0) := by
  intro k hk
  refine .inl ⟨?_, Nat.zero_le _⟩
  unfold sn
  rw [List.getD_eq_getElem?_getD, List.getElem?_replicate, if_pos hk]; rfl
theorem seeing_start (i : Nat) (s : List Int) : Seeing G i 0 s s := ⟨fun k _ => .inl rfl, fun h => absurd h (by omega)⟩
theorem seeing_skip {i m x : Nat} {s0 s : List Int} (h : Seeing G i m s0 s) (hi : i < G.length) (hx : (GL G i)[m]? = some x) (hz : sn s x ≠ 0) : Seeing G i (m + 1) s0 s := by
  refine ⟨h.1, fun _ => ?_⟩
  rcases Nat.eq_zero_or_pos m with rfl | hm
  · rw [GL_first hi] at hx; injection hx with hx; subst hx; exact hz
  · exact h.2 hm
theorem seeing_set {i m x : Nat} {s0 s : List Int} (h : Seeing G i m s0 s) (hl : s.length = G.length) (hi : i < G.length) (hx : (GL G i)[m]? = some x) (hz : sn s x = 0) : Seeing G i (m + 1) s0 (s.set x ((i : Int) + 1)) := by
  obtain ⟨h1, h2⟩ := GL_at hx
  refine ⟨fun k hk => ?_, fun _ => ?_⟩
  · rw [sn_set (by omega)]
    by_cases e : x = k
    · subst e
      rw [if_pos rfl]
      rcases h.1 x hk with c | c
      · exact .inr ⟨by rw [← c]; exact hz, rfl, h2⟩
      · rw [c.2.1] at hz; omega
    · rw [if_neg e]; exact h.1 k hk
  · rw [sn_set (by omega)]
    by_cases e : x = i
    · rw [if_pos e]; omega
    · rw [if_neg e]
      rcases Nat.eq_zero_or_pos m with rfl | hm
      · rw [GL_first hi] at hx; injection hx with hx; exact absurd hx.symm e
      · exact h.2 hm
theorem seen_succ {i : Nat} {s0 s : List Int} (h0 : Seen G i s0) (hi : i < G.length) (h : Seeing G i (GL G i).length s0 s) : Seen G (i + 1) s := by
  have hpos : 0 < (GL G i).length := by
    rcases Nat.eq_zero_or_pos (GL G i).length with e | e
    · have := GL_first hi
      rw [List.getElem?_eq_none (by omega)] at this
      cases this
    · exact e
  intro k hk
  rcases h.1 k hk with c | ⟨c0, c1, c2⟩
  · rw [c]
    rcases h0 k hk with ⟨d0, d1⟩ | ⟨r, d0, d1, d2⟩
    · refine .inl ⟨d0, ?_⟩
      rcases Nat.lt_or_eq_of_le d1 with e | e
      · exact e
      · subst e
        exact absurd (c.trans d0) (h.2 hpos)
    · exact .inr ⟨r, by omega, d1, d2⟩
  · exact .inr ⟨i, by omega, c1, c2⟩
theorem seen_nz {s : List Int} (h : Seen G G.length s) {k : Nat} (hk : k < G.length) : sn s k ≠ 0 := by
  rcases h k hk with ⟨_, h1⟩ | ⟨r, _, h1, _⟩
  · omega
  · omega
theorem seen_turn {s : List Int} (h : Seen G G.length s) {a b : Nat} (ha : a < G.length) (hb : b < a) (hc : cfl G b a = true) : sn s b < sn s a := by
  rcases h a ha with ⟨_, h1⟩ | ⟨r, _, h1, h2⟩
  · omega
  rcases h b (by omega) with ⟨_, h3⟩ | ⟨q, _, h3, h4⟩
  · omega
  have := gr_pre_conf ha hb h2 hc
  have := gr_pre_ge (by omega) h4
  omega
end
end Go.Proofs.Ytgegkebbbpapiaa.Dlm
