/- What Locate answers, as plain data; and that it tells the one column that was changed. -/
import Derived.Test.YthjodjfjeamilaaRrA
set_option linter.unusedVariables false
set_option linter.unusedSimpArgs false
namespace Go.Proofs.Ythjodjfjeamilaa.Pur
open Go Go.RowKit
theorem getD_set (cs : List (List Nat)) (i j : Nat) (d : List Nat) (hi : i < cs.length) : (cs.set i d).getD j [] = if j = i then d else cs.getD j [] := by
  rw [List.getD_eq_getElem?_getD, List.getElem?_set]
  by_cases h : i = j
  · subst h
    rw [if_pos rfl, if_pos hi, if_pos rfl]; rfl
  · rw [if_neg h, if_neg (Ne.symm h), List.getD_eq_getElem?_getD]
theorem ws_set (g : Nat → Nat) (cs : List (List Nat)) (i : Nat) (d : List Nat) (k : Nat) (hi : i < cs.length) : ∀ n, ws g (cs.set i d) n k = if i < n then ws g cs n k ^^^ Math.mul (g i) ((cs.getD i []).getD k 0) ^^^ Math.mul (g i) (d.getD k 0) else ws g cs n k
  | 0 => by rw [if_neg (by omega)]; rfl
  | n + 1 => by
    show ws g (cs.set i d) n k ^^^ Math.mul (g n) (((cs.set i d).getD n []).getD k 0) = _
    rw [ws_set g cs i d k hi n, getD_set cs i n d hi]
    by_cases h : n = i
    · subst h
      rw [if_neg (by omega), if_pos rfl, if_pos (by omega)]
      show _ = ws g cs n k ^^^ Math.mul (g n) ((cs.getD n []).getD k 0) ^^^ Math.mul (g n) ((cs.getD n []).getD k 0) ^^^ _
      rw [Nat.xor_assoc (ws g cs n k), Nat.xor_self, Nat.xor_zero]
    · rw [if_neg h]
      by_cases h2 : i < n
      · rw [if_pos h2, if_pos (by omega)]
        show _ = ws g cs n k ^^^ Math.mul (g n) ((cs.getD n []).getD k 0) ^^^ _ ^^^ _
        generalize ws g cs n k = a
        generalize Math.mul (g n) ((cs.getD n []).getD k 0) = b
        generalize Math.mul (g i) ((cs.getD i []).getD k 0) = c
        generalize Math.mul (g i) (d.getD k 0) = e
        rw [Math.xor_right_comm (a ^^^ c) e b, Math.xor_right_comm a c b]
      · rw [if_neg h2, if_neg (by omega)]
        rfl
/-- Nothing is missing in P, in Q; what is missing is column i's. -/
def S0 (n : Nat) (cs : List (List Nat)) (p : List Nat) : Prop := ∀ k, k < n → ss cs p k = 0
def T0 (n : Nat) (cs : List (List Nat)) (q : List Nat) : Prop := ∀ k, k < n → tt cs q k = 0
def Pm (n : Nat) (cs : List (List Nat)) (p q : List Nat) (i : Nat) : Prop := ∀ k, k < n → Math.mul (Math.e i) (ss cs p k) = tt cs q k
/-- What Locate answers of sound columns. -/
def Loc (n : Nat) (cs : List (List Nat)) (p q : List Nat) (r : Int × Int) : Prop :=
  (S0 n cs p ∧ T0 n cs q ∧ r = (-1, 0)) ∨ (¬ S0 n cs p ∧ T0 n cs q ∧ r = ((cs.length : Int), 0)) ∨ (S0 n cs p ∧ ¬ T0 n cs q ∧ r = ((cs.length : Int) + 1, 0)) ∨
  (¬ S0 n cs p ∧ ¬ T0 n cs q ∧ ∃ i : Nat, i < cs.length ∧ Pm n cs p q i ∧ (∀ j, j < i → ¬ Pm n cs p q j) ∧ r = ((i : Int), 0)) ∨
  (¬ S0 n cs p ∧ ¬ T0 n cs q ∧ (∀ j, j < cs.length → ¬ Pm n cs p q j) ∧ r = (0, 10))
theorem Loc.uniq {n : Nat} {cs : List (List Nat)} {p q : List Nat} {r s : Int × Int} (h : Loc n cs p q r) (k : Loc n cs p q s) : r = s := by
  rcases h with ⟨a, b, rfl⟩ | ⟨a, b, rfl⟩ | ⟨a, b, rfl⟩ | ⟨a, b, i, hi, c, d, rfl⟩ | ⟨a, b, c, rfl⟩ <;>
  rcases k with ⟨a', b', rfl⟩ | ⟨a', b', rfl⟩ | ⟨a', b', rfl⟩ | ⟨a', b', i', hi', c', d', rfl⟩ | ⟨a', b', c', rfl⟩ <;>
  first
    | rfl
    | exact absurd a a'
    | exact absurd a' a
    | exact absurd b b'
    | exact absurd b' b
    | exact absurd c' (c _ hi')
    | exact absurd c (c' _ hi)
    | skip
  have : i = i' := by
    rcases Nat.lt_trichotomy i i' with h | h | h
    · exact absurd c (d' i h)
    · exact h
    · exact absurd c' (d i' h)
  rw [this]
theorem s0_iff {n : Nat} {cs : List (List Nat)} {p : List Nat} : S0 n cs p ↔ tab n (ss cs p) = tab n fun _ => 0 :=
  ⟨fun h => tab_congr h, fun h k hk => tab_inj h k hk⟩
theorem t0_iff {n : Nat} {cs : List (List Nat)} {q : List Nat} : T0 n cs q ↔ tab n (tt cs q) = tab n fun _ => 0 :=
  ⟨fun h => tab_congr h, fun h k hk => tab_inj h k hk⟩
theorem pm_iff {n : Nat} {cs : List (List Nat)} {p q : List Nat} {i : Nat} : Pm n cs p q i ↔ tab n (fun k => Math.mul (Math.e i) (ss cs p k)) = tab n (tt cs q) :=
  ⟨fun h => tab_congr h, fun h k hk => tab_inj h k hk⟩
theorem eq_tab {n : Nat} {l : List Nat} {f : Nat → Nat} (h : l.length = n) : tab n f = l ↔ ∀ k, k < n → f k = l.getD k 0 := by
  constructor
  · intro e k hk
    rw [← e, tab_get hk]
  · intro e
    rw [← tab_self l, h]
    exact tab_congr e
/-- The document's own tests. -/
theorem s0_ref {n : Nat} {cs : List (List Nat)} {p : List Nat} (hp : Byt p) (hl : p.length = n) : S0 n cs p ↔ tab n (wP cs) = p := by
  rw [eq_tab hl]
  constructor
  · intro h k hk
    have := h k hk
    rw [ss_eq hp] at this
    exact Math.xor_eq_zero.1 this
  · intro h k hk
    rw [ss_eq hp, h k hk, Nat.xor_self]
theorem t0_ref {n : Nat} {cs : List (List Nat)} {q : List Nat} (hp : Byt q) (hl : q.length = n) : T0 n cs q ↔ tab n (wQ cs) = q := by
  rw [eq_tab hl]
  constructor
  · intro h k hk
    have := h k hk
    rw [tt_eq hp] at this
    exact Math.xor_eq_zero.1 this
  · intro h k hk
    rw [tt_eq hp, h k hk, Nat.xor_self]
/-- A column changed: what is missing then. -/
theorem wP_set {cs : List (List Nat)} {i : Nat} (d : List Nat) (k : Nat) (hc : Bytt cs) (hd : Byt d) (hi : i < cs.length) : wP (cs.set i d) k = wP cs k ^^^ (cs.getD i []).getD k 0 ^^^ d.getD k 0 := by
  unfold wP
  rw [List.length_set, ws_set one cs i d k hi, if_pos hi]
  unfold one
  rw [Math.one_mul _ (byt_get (bytt_get hc i) k), Math.one_mul _ (byt_get hd k)]
theorem wQ_set {cs : List (List Nat)} {i : Nat} (d : List Nat) (k : Nat) (hi : i < cs.length) : wQ (cs.set i d) k = wQ cs k ^^^ Math.mul (Math.e i) ((cs.getD i []).getD k 0) ^^^ Math.mul (Math.e i) (d.getD k 0) := by
  unfold wQ
  rw [List.length_set, ws_set Math.e cs i d k hi, if_pos hi]
/-- What the document's Locate finds for column i. -/
def tri (n : Nat) (cs : List (List Nat)) (p : List Nat) (i : Nat) : List Nat := tab n (ss (cs.set i []) p)
theorem tri_get {n : Nat} {cs : List (List Nat)} {p : List Nat} {i k : Nat} (hc : Bytt cs) (hp : Byt p) (hi : i < cs.length) (hk : k < n) : (tri n cs p i).getD k 0 = (cs.getD i []).getD k 0 ^^^ ss cs p k := by
  unfold tri
  rw [tab_get hk, ss_eq hp, ss_eq hp, wP_set [] k hc (by intro x hx; cases hx) hi]
  simp only [List.getD_nil, Nat.xor_zero]
  rw [Nat.xor_comm (wP cs k), Nat.xor_assoc]
theorem tri_byt {n : Nat} {cs : List (List Nat)} {p : List Nat} {i : Nat} (hc : Bytt cs) : Byt (tri n cs p i) := tab_byt fun k _ => ss_lt (set_bytt hc (by intro x hx; cases hx)) k
theorem pm_ref {n : Nat} {cs : List (List Nat)} {p q : List Nat} {i : Nat} (hc : Bytt cs) (hp : Byt p) (hq : Byt q) (hl : q.length = n) (hi : i < cs.length) : Pm n cs p q i ↔ tab n (wQ (cs.set i (tri n cs p i))) = q := by
  rw [eq_tab hl]
  have key : ∀ k, k < n → wQ (cs.set i (tri n cs p i)) k = wQ cs k ^^^ Math.mul (Math.e i) (ss cs p k) := fun k hk => by
    rw [wQ_set _ k hi, tri_get hc hp hi hk, Math.mul_xor, Nat.xor_assoc]
    congr 1
    rw [← Nat.xor_assoc, Nat.xor_self, Nat.zero_xor]
  constructor
  · intro h k hk
    rw [key k hk, h k hk, tt_eq hq, ← Nat.xor_assoc, Nat.xor_self, Nat.zero_xor]
  · intro h k hk
    have h1 := h k hk
    rw [key k hk] at h1
    rw [tt_eq hq, ← h1, ← Nat.xor_assoc, Nat.xor_self, Nat.zero_xor]
theorem mul_e_zero {i x : Nat} (hx : x < 256) (h : Math.mul (Math.e i) x = 0) : x = 0 := by
  exact Classical.byContradiction fun h0 => Math.mul_ne_zero (Math.e_lt i) hx (Math.e_ne i) h0 h
theorem not_pm_s0 {n : Nat} {cs : List (List Nat)} {p q : List Nat} (hs : S0 n cs p) (ht : ¬ T0 n cs q) (i : Nat) : ¬ Pm n cs p q i := fun h => ht fun k hk => by
  rw [← h k hk, hs k hk, Math.mul_zero]
theorem not_pm_t0 {n : Nat} {cs : List (List Nat)} {p q : List Nat} (hc : Bytt cs) (hs : ¬ S0 n cs p) (ht : T0 n cs q) (i : Nat) : ¬ Pm n cs p q i := fun h => hs fun k hk => mul_e_zero (ss_lt hc k) ((h k hk).trans (ht k hk))
theorem filt_one : ∀ (n i : Nat), i < n → (List.range n).filter (fun j => j == i) = [i]
  | 0, i, h => by omega
  | n + 1, i, h => by
    rw [List.range_succ, List.filter_append]
    by_cases e : i = n
    · subst e
      have h1 : (List.range i).filter (fun j => j == i) = [] := by
        rw [List.filter_eq_nil_iff]
        intro j hj
        rw [List.mem_range] at hj
        simp
        omega
      rw [h1]
      simp
    · rw [filt_one n i (by omega)]
      have h2 : (n == i) = false := by rw [beq_eq_false_iff_ne]; omega
      simp [h2]
/-- One column is lost: which. -/
theorem gone_one {cs : List (List Nat)} {n i : Nat} (hc : ∀ c ∈ cs, c.length = n) (hn : 1 ≤ n) (hi : i < cs.length) : gone (cs.set i []) = [i] := by
  unfold gone goneTo
  rw [List.length_set]
  have e : (List.range cs.length).filter (fun j => ((cs.set i []).getD j []).length == 0) = (List.range cs.length).filter (fun j => j == i) := by
    apply List.filter_congr
    intro j hj
    rw [List.mem_range] at hj
    by_cases h : j = i
    · subst h
      rw [getD_set_self _ hj]
      simp
    · rw [getD_set_ne _ (fun e => h e.symm)]
      have h1 := hc _ (getD_mem hj)
      have a : ((cs.getD j []).length == 0) = false := by rw [beq_eq_false_iff_ne]; omega
      have b : (j == i) = false := by rw [beq_eq_false_iff_ne]; exact h
      rw [a, b]
  rw [e]
  exact filt_one cs.length i hi
theorem snd_full {cs : List (List Nat)} {p q : List Nat} {n : Nat} (h1 : 1 ≤ n) (h4 : n ≤ 4096) (hc : ∀ c ∈ cs, c.length = n) (hp : p.length = n) (hq : q.length = n) : Snd (lens (cs ++ [p, q])) n 0 := by
  have hall : ∀ k ∈ lens (cs ++ [p, q]), k = n := by
    intro k hk
    obtain ⟨c, hm, rfl⟩ := List.mem_map.1 hk
    simp at hm
    rcases hm with hm | rfl | rfl
    · exact hc c hm
    · exact hp
    · exact hq
  refine ⟨h1, h4, List.mem_map.2 ⟨p, by simp, hp⟩, fun k hk => .inr (hall k hk), ?_⟩
  rw [eq_comm, List.count_eq_zero]
  intro h
  have := hall 0 h
  omega
theorem rcv_tri {cs : List (List Nat)} {p q : List Nat} {n i : Nat} (h1 : 1 ≤ n) (h4 : n ≤ 4096) (hl1 : 1 ≤ cs.length) (hl2 : cs.length ≤ 30) (hc : ∀ c ∈ cs, c.length = n) (hp : p.length = n) (hq : q.length = n) (hi : i < cs.length) :
    rcv (cs.set i []) p q = (cs.set i (tri n cs p i), p, q, 0) := by
  have hs : Snd (lens (cs.set i [] ++ [p, q])) n 1 := by
    refine ⟨h1, h4, List.mem_map.2 ⟨p, by simp, hp⟩, fun k hk => ?_, ?_⟩
    · obtain ⟨c, hm, rfl⟩ := List.mem_map.1 hk
      simp at hm
      rcases hm with hm | rfl | rfl
      · rcases List.mem_or_eq_of_mem_set hm with h | rfl
        · exact .inr (hc c h)
        · exact .inl rfl
      · exact .inr hp
      · exact .inr hq
    · have hg := gone_count (cs.set i [])
      rw [gone_one hc h1 hi] at hg
      unfold lens at *
      have h2 : List.count 0 [p.length, q.length] = 0 := by rw [List.count_eq_zero]; simp; omega
      have e : List.map List.length [p, q] = [p.length, q.length] := rfl
      rw [List.map_append, List.count_append, ← hg, e, h2]
      rfl
  have hW : rcvW (cs.set i []) p q = (n, 1) := by
    unfold rcvW
    rw [List.length_set, if_neg (by omega), wid_snd hs]
  unfold rcv
  rw [hW, if_neg (by simp only; omega), if_neg (by simp only; omega), fill_1 (gone_one hc h1 hi), if_neg (by omega), if_neg (by omega), List.set_set]
  have e : tab n (f1 (cs.set i []) p q i) = tri n cs p i := tab_congr fun k _ => by unfold f1; rw [if_neg (by omega)]
  simp only [e]
/-! ### Which one was changed -/
theorem loc_same {cs : List (List Nat)} {n : Nat} {r : Int × Int} (hc : Bytt cs) (h : Loc n cs (tab n (wP cs)) (tab n (wQ cs)) r) : r = (-1, 0) := by
  have hs : S0 n cs (tab n (wP cs)) := (s0_ref (tab_byt fun k _ => wP_lt hc k) (tab_len _ _)).2 rfl
  have ht : T0 n cs (tab n (wQ cs)) := (t0_ref (tab_byt fun k _ => wQ_lt hc k) (tab_len _ _)).2 rfl
  exact h.uniq (.inl ⟨hs, ht, rfl⟩)
theorem loc_p {cs : List (List Nat)} {n : Nat} {o : List Nat} {r : Int × Int} (hc : Bytt cs) (ho : Byt o) (hl : o.length = n) (hne : tab n (wP cs) ≠ o) (h : Loc n cs o (tab n (wQ cs)) r) : r = ((cs.length : Int), 0) := by
  have hs : ¬ S0 n cs o := fun h => hne ((s0_ref ho hl).1 h)
  have ht : T0 n cs (tab n (wQ cs)) := (t0_ref (tab_byt fun k _ => wQ_lt hc k) (tab_len _ _)).2 rfl
  exact h.uniq (.inr (.inl ⟨hs, ht, rfl⟩))
theorem loc_q {cs : List (List Nat)} {n : Nat} {o : List Nat} {r : Int × Int} (hc : Bytt cs) (ho : Byt o) (hl : o.length = n) (hne : tab n (wQ cs) ≠ o) (h : Loc n cs (tab n (wP cs)) o r) : r = ((cs.length : Int) + 1, 0) := by
  have hs : S0 n cs (tab n (wP cs)) := (s0_ref (tab_byt fun k _ => wP_lt hc k) (tab_len _ _)).2 rfl
  have ht : ¬ T0 n cs o := fun h => hne ((t0_ref ho hl).1 h)
  exact h.uniq (.inr (.inr (.inl ⟨hs, ht, rfl⟩)))
theorem loc_col {cs : List (List Nat)} {n i : Nat} {o : List Nat} {r : Int × Int} (hc : Bytt cs) (ho : Byt o) (hcl : (cs.getD i []).length = n) (hl : o.length = n) (hi : i < cs.length) (hl2 : cs.length ≤ 30) (hne : cs.getD i [] ≠ o) (h : Loc n (cs.set i o) (tab n (wP cs)) (tab n (wQ cs)) r) : r = ((i : Int), 0) := by
  have hP : Byt (tab n (wP cs)) := tab_byt fun k _ => wP_lt hc k
  have hQ : Byt (tab n (wQ cs)) := tab_byt fun k _ => wQ_lt hc k
  have hS : ∀ k, k < n → ss (cs.set i o) (tab n (wP cs)) k = (cs.getD i []).getD k 0 ^^^ o.getD k 0 := fun k hk => by
    rw [ss_eq hP, wP_set o k hc ho hi, tab_get hk, Nat.xor_comm, Nat.xor_assoc, ← Nat.xor_assoc, Nat.xor_self, Nat.zero_xor]
  have hT : ∀ k, k < n → tt (cs.set i o) (tab n (wQ cs)) k = Math.mul (Math.e i) ((cs.getD i []).getD k 0 ^^^ o.getD k 0) := fun k hk => by
    rw [tt_eq hQ, wQ_set o k hi, tab_get hk, Math.mul_xor, Nat.xor_comm, Nat.xor_assoc, ← Nat.xor_assoc, Nat.xor_self, Nat.zero_xor]
  obtain ⟨k, hk, hd⟩ : ∃ k, k < n ∧ (cs.getD i []).getD k 0 ≠ o.getD k 0 := by
    refine Classical.byContradiction fun hno => hne ?_
    have := tab_self (cs.getD i [])
    rw [← this, ← tab_self o, hcl, hl]
    exact tab_congr fun k hk => Classical.byContradiction fun h => hno ⟨k, hk, h⟩
  have hx : (cs.getD i []).getD k 0 ^^^ o.getD k 0 ≠ 0 := fun h => hd (Math.xor_eq_zero.1 h)
  have hxl : (cs.getD i []).getD k 0 ^^^ o.getD k 0 < 256 := Math.xor_lt (byt_get (bytt_get hc i) k) (byt_get ho k)
  refine h.uniq (.inr (.inr (.inr (.inl ⟨fun h => hx ((hS k hk).symm.trans (h k hk)), fun h => hx (mul_e_zero hxl ((hT k hk).symm.trans (h k hk))), i, by rw [List.length_set]; exact hi, fun j hj => by rw [hS j hj, hT j hj], fun j hj h => ?_, rfl⟩))))
  have h1 := h k hk
  rw [hS k hk, hT k hk] at h1
  have h2 : Math.mul (Math.e j ^^^ Math.e i) ((cs.getD i []).getD k 0 ^^^ o.getD k 0) = 0 := by
    rw [Math.xor_mul _ (Math.e_lt j) (Math.e_lt i), h1, Nat.xor_self]
  have h3 : Math.e j ^^^ Math.e i = 0 := Classical.byContradiction fun h0 => Math.mul_ne_zero (Math.xor_lt (Math.e_lt j) (Math.e_lt i)) hxl h0 hx h2
  exact absurd (e_inj j (by omega) i (by omega) (Math.xor_eq_zero.1 h3)) (by omega)
end Go.Proofs.Ythjodjfjeamilaa.Pur
