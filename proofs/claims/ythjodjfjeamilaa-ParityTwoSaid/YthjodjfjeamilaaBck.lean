/- What Recover answers of columns that were encoded and lost in part: the columns, P and Q. -/
import Derived.Test.YthjodjfjeamilaaRcvA
set_option linter.unusedVariables false
set_option linter.unusedSimpArgs false
namespace Go.Proofs.Ythjodjfjeamilaa.Pur
open Go Go.RowKit
theorem getD_set2 (cs : List (List Nat)) (i j : Nat) (d : List Nat) (hi : i < cs.length) : (cs.set i d).getD j [] = if j = i then d else cs.getD j [] := by
  rw [List.getD_eq_getElem?_getD, List.getElem?_set]
  by_cases h : i = j
  · subst h
    rw [if_pos rfl, if_pos hi, if_pos rfl]; rfl
  · rw [if_neg h, if_neg (Ne.symm h), List.getD_eq_getElem?_getD]
theorem ws_cut (g : Nat → Nat) (cs : List (List Nat)) (i : Nat) (k : Nat) (hi : i < cs.length) : ∀ n, ws g (cs.set i []) n k = if i < n then ws g cs n k ^^^ Math.mul (g i) ((cs.getD i []).getD k 0) else ws g cs n k
  | 0 => by rw [if_neg (by omega)]; rfl
  | n + 1 => by
    show ws g (cs.set i []) n k ^^^ Math.mul (g n) (((cs.set i []).getD n []).getD k 0) = _
    rw [ws_cut g cs i k hi n, getD_set2 cs i n [] hi]
    by_cases h : n = i
    · subst h
      rw [if_neg (by omega), if_pos rfl, if_pos (by omega)]
      show _ ^^^ Math.mul (g n) 0 = ws g cs n k ^^^ Math.mul (g n) ((cs.getD n []).getD k 0) ^^^ Math.mul (g n) ((cs.getD n []).getD k 0)
      rw [Nat.xor_assoc (ws g cs n k), Nat.xor_self, Nat.xor_zero, Math.mul_zero, Nat.xor_zero]
    · rw [if_neg h]
      by_cases h2 : i < n
      · rw [if_pos h2, if_pos (by omega)]
        show _ = ws g cs n k ^^^ Math.mul (g n) ((cs.getD n []).getD k 0) ^^^ _
        rw [Math.xor_right_comm]
      · rw [if_neg h2, if_neg (by omega)]
        rfl
theorem ext_getD {a b : List (List Nat)} (hl : a.length = b.length) (h : ∀ j, j < a.length → a.getD j [] = b.getD j []) : a = b := by
  apply List.ext_getElem hl
  intro i h1 h2
  have := h i h1
  rw [List.getD_eq_getElem?_getD, List.getD_eq_getElem?_getD, List.getElem?_eq_getElem h1, List.getElem?_eq_getElem h2] at this
  exact this
/-- What is left of the columns cs, and of P and Q: no more than l are lost. -/
structure Lft (cs : List (List Nat)) (n : Nat) (ls : List (List Nat)) (p q : List Nat) (l : Nat) : Prop where
  len : ls.length = cs.length
  el : ∀ j, ls.getD j [] = cs.getD j [] ∨ ls.getD j [] = []
  hp : p = tab n (wP cs) ∨ p = []
  hq : q = tab n (wQ cs) ∨ q = []
  cnt : (lens (ls ++ [p, q])).count 0 ≤ l
theorem lens_two (ls : List (List Nat)) (p q : List Nat) : (lens (ls ++ [p, q])).count 0 = (gone ls).length + (if p.length = 0 then 1 else 0) + (if q.length = 0 then 1 else 0) := by
  have e : lens (ls ++ [p, q]) = lens ls ++ [p.length, q.length] := by unfold lens; simp
  rw [e, List.count_append, gone_count]
  by_cases hp0 : p.length = 0 <;> by_cases hq0 : q.length = 0 <;> simp [List.count_cons, hp0, hq0]
theorem Lft.all {cs : List (List Nat)} {n : Nat} {ls : List (List Nat)} {p q : List Nat} {l : Nat} (hg : Good cs n) (h : Lft cs n ls p q l) : ∀ c ∈ ls ++ [p, q], c.length = 0 ∨ c.length = n := by
  intro c hc
  rw [List.mem_append] at hc
  rcases hc with hc | hc
  · obtain ⟨j, hj, rfl⟩ := List.getElem_of_mem hc
    have e : ls.getD j [] = ls[j] := by rw [List.getD_eq_getElem?_getD, List.getElem?_eq_getElem hj]; rfl
    rw [← e]
    rcases h.el j with h1 | h1
    · rw [h1]; exact .inr (hg.len _ (getD_mem (by rw [← h.len]; exact hj)))
    · rw [h1]; exact .inl rfl
  · simp only [List.mem_cons, List.not_mem_nil, or_false] at hc
    rcases hc with rfl | rfl
    · rcases h.hp with h1 | h1 <;> rw [h1]
      · exact .inr (tab_len _ _)
      · exact .inl rfl
    · rcases h.hq with h1 | h1 <;> rw [h1]
      · exact .inr (tab_len _ _)
      · exact .inl rfl
theorem Lft.snd {cs : List (List Nat)} {n : Nat} {ls : List (List Nat)} {p q : List Nat} (hg : Good cs n) (h : Lft cs n ls p q 2) : Snd (lens (ls ++ [p, q])) n ((lens (ls ++ [p, q])).count 0) := by
  have hall : ∀ k ∈ lens (ls ++ [p, q]), k = 0 ∨ k = n := by
    intro k hk
    obtain ⟨c, hc, rfl⟩ := List.mem_map.1 hk
    exact h.all hg c hc
  refine ⟨hg.snd.pos, hg.snd.lim, ?_, hall, rfl⟩
  apply Classical.byContradiction
  intro hn
  have h0 : ∀ k ∈ lens (ls ++ [p, q]), 0 = k := by
    intro k hk
    rcases hall k hk with h1 | h1
    · exact h1.symm
    · exact absurd (h1 ▸ hk) hn
  have h1 := List.count_eq_length.2 h0
  have h2 := h.cnt
  have h3 := hg.lo
  have h4 : (lens (ls ++ [p, q])).length = cs.length + 2 := by unfold lens; simp [h.len]
  omega
section
variable {cs ls : List (List Nat)} {n : Nat} {p q : List Nat} {l : Nat}
theorem Lft.kept (hg : Good cs n) (h : Lft cs n ls p q l) {j : Nat} (hj : j < cs.length) (hn : j ∉ gone ls) : ls.getD j [] = cs.getD j [] := by
  rcases h.el j with h1 | h1
  · exact h1
  · exact absurd (mem_gone (by rw [h.len]; exact hj) (by rw [h1]; rfl)) hn
theorem Lft.lostD {ls : List (List Nat)} {j : Nat} (hj : j ∈ gone ls) : ls.getD j [] = [] := List.length_eq_zero_iff.1 (goneTo_lt hj).2
/-- A column, byte by byte. -/
theorem col_tab (hg : Good cs n) {g : Nat} (h : g < cs.length) {f : Nat → Nat} (hf : ∀ k, k < n → f k = (cs.getD g []).getD k 0) : tab n f = cs.getD g [] := by
  have hl : (cs.getD g []).length = n := hg.len _ (getD_mem h)
  have h2 := tab_self (cs.getD g [])
  rw [hl] at h2
  rw [← h2]
  exact tab_congr fun k hk => by rw [hf k hk]
theorem ss_one (hc : Bytt cs) {g k : Nat} (hg : g < cs.length) (hk : k < n) : ss (cs.set g []) (tab n (wP cs)) k = (cs.getD g []).getD k 0 := by
  unfold ss
  rw [tab_get hk, Math.one_mul _ (wP_lt hc k)]
  show ws one (cs.set g []) (cs.set g []).length k ^^^ _ = _
  rw [List.length_set, ws_cut one cs g k hg cs.length, if_pos hg]
  show (wP cs k ^^^ Math.mul 1 _) ^^^ wP cs k = _
  rw [Math.one_mul _ (byt_get (bytt_get hc g) k), Nat.xor_comm (wP cs k), Math.xor_cancel]
theorem tt_one (hc : Bytt cs) {g k : Nat} (hg : g < cs.length) (hk : k < n) : tt (cs.set g []) (tab n (wQ cs)) k = Math.mul (Math.e g) ((cs.getD g []).getD k 0) := by
  unfold tt
  rw [tab_get hk, Math.one_mul _ (wQ_lt hc k)]
  show ws Math.e (cs.set g []) (cs.set g []).length k ^^^ _ = _
  rw [List.length_set, ws_cut Math.e cs g k hg cs.length, if_pos hg]
  show (wQ cs k ^^^ _) ^^^ wQ cs k = _
  rw [Nat.xor_comm (wQ cs k), Math.xor_cancel]
theorem ws_two (f : Nat → Nat) {g h k : Nat} (hg : g < cs.length) (hh : h < cs.length) (hne : g ≠ h) : ws f ((cs.set g []).set h []) ((cs.set g []).set h []).length k = ws f cs cs.length k ^^^ Math.mul (f g) ((cs.getD g []).getD k 0) ^^^ Math.mul (f h) ((cs.getD h []).getD k 0) := by
  rw [List.length_set, List.length_set, ws_cut f (cs.set g []) h k (by rw [List.length_set]; exact hh) cs.length, if_pos hh, ws_cut f cs g k hg cs.length, if_pos hg, getD_set2 cs g h [] hg, if_neg (Ne.symm hne)]
theorem xor_out (a b c : Nat) : ((a ^^^ b) ^^^ c) ^^^ a = b ^^^ c := by rw [Nat.xor_assoc a b c, Nat.xor_comm a, Math.xor_cancel]
theorem fill_back (hg : Good cs n) (hc : Bytt cs) (h : Lft cs n ls p q 2) : fill ls p q n = cs := by
  have hcnt := h.cnt
  rw [lens_two] at hcnt
  have hl := h.len
  unfold fill
  have hk := fun j => h.kept (j := j) hg
  have hlo := fun j => @Lft.lostD ls j
  have hltg := fun j (hj : j ∈ gone ls) => (goneTo_lt hj).1
  have hsor := gone_sorted ls
  generalize gone ls = G at *
  rcases G with _ | ⟨g, _ | ⟨h', _ | ⟨h2, G⟩⟩⟩
  · show ls = cs
    exact ext_getD hl fun j hj => hk j (by omega) (by simp)
  · have hgm : g < cs.length := by have := hltg g (by simp); omega
    have els : ls = cs.set g [] := by
      apply ext_getD (by rw [List.length_set]; exact hl)
      intro j hj
      rw [getD_set2 cs g j [] hgm]
      by_cases hjg : j = g
      · rw [if_pos hjg, hjg]; exact hlo g (by simp)
      · rw [if_neg hjg]; exact hk j (by omega) (by simp; exact hjg)
    have fin : ∀ c, c = cs.getD g [] → ls.set g c = cs := by
      intro c hce
      apply ext_getD (by rw [List.length_set]; exact hl)
      intro j hj
      rw [List.length_set] at hj
      rw [getD_set2 ls g j c (by omega)]
      by_cases hjg : j = g
      · rw [if_pos hjg, hjg]; exact hce
      · rw [if_neg hjg]; exact hk j (by omega) (by simp; exact hjg)
    simp only [List.length_cons, List.length_nil] at hcnt
    apply fin
    by_cases hp : p.length = 0
    · rw [if_pos hp]
      have hq : q = tab n (wQ cs) := by
        rcases h.hq with h1 | h1
        · exact h1
        · exfalso; rw [if_pos hp, if_pos (by rw [h1]; rfl)] at hcnt; omega
      refine col_tab hg hgm fun k hkn => ?_
      rw [hq, els, tt_one hc hgm hkn, ← Math.mul_assoc (Math.inv_lt (Math.e_lt g)) (Math.e_lt g) (byt_get (bytt_get hc g) k), Math.inv_mul (Math.e_lt g) (Math.e_ne g), Math.one_mul _ (byt_get (bytt_get hc g) k)]
    · rw [if_neg hp]
      have hpe : p = tab n (wP cs) := by
        rcases h.hp with h1 | h1
        · exact h1
        · exact absurd (by rw [h1]; rfl) hp
      refine col_tab hg hgm fun k hkn => ?_
      rw [hpe, els, ss_one hc hgm hkn]
  · have hgm : g < cs.length := by have := hltg g (by simp); omega
    have hhm : h' < cs.length := by have := hltg h' (by simp); omega
    have hne : g ≠ h' := by
      have := (List.pairwise_cons.1 hsor).1 h' (by simp)
      omega
    have els : ls = (cs.set g []).set h' [] := by
      apply ext_getD (by rw [List.length_set, List.length_set]; exact hl)
      intro j hj
      rw [getD_set2 (cs.set g []) h' j [] (by rw [List.length_set]; exact hhm), getD_set2 cs g j [] hgm]
      by_cases hjh : j = h'
      · rw [if_pos hjh, hjh]; exact hlo h' (by simp)
      · rw [if_neg hjh]
        by_cases hjg : j = g
        · rw [if_pos hjg, hjg]; exact hlo g (by simp)
        · rw [if_neg hjg]; exact hk j (by omega) (by simp; exact ⟨hjg, hjh⟩)
    simp only [List.length_cons, List.length_nil] at hcnt
    have hpe : p = tab n (wP cs) := by
      rcases h.hp with h1 | h1
      · exact h1
      · exfalso; rw [if_pos (by rw [h1]; rfl)] at hcnt; omega
    have hqe : q = tab n (wQ cs) := by
      rcases h.hq with h1 | h1
      · exact h1
      · exfalso; rw [if_pos (c := q.length = 0) (by rw [h1]; rfl)] at hcnt; omega
    have sol : ∀ k, k < n → (cs.getD g []).getD k 0 = Math.solX 1 1 (Math.e g) (Math.e h') (ss ls p k) (tt ls q k) ∧ (cs.getD h' []).getD k 0 = Math.solY 1 1 (Math.e g) (Math.e h') (ss ls p k) (tt ls q k) := by
      intro k hkn
      have bg := byt_get (bytt_get hc g) k
      have bh := byt_get (bytt_get hc h') k
      refine Math.sol_unique (by decide) (by decide) (Math.e_lt g) (Math.e_lt h') bg bh (det_ne (by have := hg.hi; omega) (by have := hg.hi; omega) hne) ?_ ?_
      · unfold ss
        rw [hpe, tab_get hkn, Math.one_mul _ (wP_lt hc k), els]
        show _ = ws one ((cs.set g []).set h' []) ((cs.set g []).set h' []).length k ^^^ _
        rw [ws_two one hgm hhm hne]
        show _ = ((wP cs k ^^^ _) ^^^ _) ^^^ wP cs k
        rw [xor_out]
        rfl
      · unfold tt
        rw [hqe, tab_get hkn, Math.one_mul _ (wQ_lt hc k), els]
        show _ = ws Math.e ((cs.set g []).set h' []) ((cs.set g []).set h' []).length k ^^^ _
        rw [ws_two Math.e hgm hhm hne]
        show _ = ((wQ cs k ^^^ _) ^^^ _) ^^^ wQ cs k
        rw [xor_out]
    have eX := col_tab hg hgm (f := fun k => Math.solX 1 1 (Math.e g) (Math.e h') (ss ls p k) (tt ls q k)) (fun k hkn => (sol k hkn).1.symm)
    have eY := col_tab hg hhm (f := fun k => Math.solY 1 1 (Math.e g) (Math.e h') (ss ls p k) (tt ls q k)) (fun k hkn => (sol k hkn).2.symm)
    show (ls.set g (tab n fun k => Math.solX 1 1 (Math.e g) (Math.e h') (ss ls p k) (tt ls q k))).set h' (tab n fun k => Math.solY 1 1 (Math.e g) (Math.e h') (ss ls p k) (tt ls q k)) = cs
    rw [eX, eY]
    apply ext_getD (by rw [List.length_set, List.length_set]; exact hl)
    intro j hj
    rw [List.length_set, List.length_set] at hj
    rw [getD_set2 (ls.set g _) h' j _ (by rw [List.length_set]; omega), getD_set2 ls g j _ (by omega)]
    by_cases hjh : j = h'
    · rw [if_pos hjh, hjh]
    · rw [if_neg hjh]
      by_cases hjg : j = g
      · rw [if_pos hjg, hjg]
      · rw [if_neg hjg]; exact hk j (by omega) (by simp; exact ⟨hjg, hjh⟩)
  · simp only [List.length_cons] at hcnt
    omega
/-- Recover gives back what was lost. -/
theorem rcv_back (hg : Good cs n) (hc : Bytt cs) (h : Lft cs n ls p q 2) : rcv ls p q = (cs, tab n (wP cs), tab n (wQ cs), 0) := by
  have hs := h.snd hg
  have e : rcvW ls p q = (n, (lens (ls ++ [p, q])).count 0) := by
    unfold rcvW
    rw [if_neg (by rw [h.len]; have := hg.lo; have := hg.hi; omega), Wd.wid_snd2 hs]
  have h0 := hg.snd.pos
  unfold rcv
  rw [e, if_neg (by show ¬ n = 0; omega), if_neg (by have := h.cnt; show ¬ 2 < List.count 0 (lens (ls ++ [p, q])); omega)]
  simp only
  rw [fill_back hg hc h]
  have ep : (if p.length = 0 then tab n (wP cs) else p) = tab n (wP cs) := by
    rcases h.hp with h1 | h1
    · rw [h1, tab_len, if_neg (by omega)]
    · rw [h1]; rfl
  have eq : (if q.length = 0 then tab n (wQ cs) else q) = tab n (wQ cs) := by
    rcases h.hq with h1 | h1
    · rw [h1, tab_len, if_neg (by omega)]
    · rw [h1]; rfl
  rw [ep, eq]
end
theorem count_set_le : ∀ (L : List Nat) (i : Nat), (L.set i 0).count 0 ≤ L.count 0 + 1
  | [], i => by simp
  | a :: L, 0 => by
    rw [List.set_cons_zero, List.count_cons_self]
    have := List.count_le_count_cons (a := 0) (b := a) (l := L)
    omega
  | a :: L, i + 1 => by
    have := count_set_le L i
    rw [List.set_cons_succ, List.count_cons, List.count_cons]
    omega
/-- One more is lost. -/
theorem Lft.more {cs ls : List (List Nat)} {n : Nat} {p q : List Nat} {l : Nat} (h : Lft cs n ls p q l) (a : Nat) :
    Lft cs n (if a < cs.length then ls.set a [] else ls) (if a = cs.length then [] else p) (if cs.length < a then [] else q) (l + 1) := by
  have hc := h.cnt
  rcases Nat.lt_trichotomy a cs.length with ha | ha | ha
  · rw [if_pos ha, if_neg (by omega), if_neg (by omega)]
    refine ⟨by rw [List.length_set]; exact h.len, fun j => ?_, h.hp, h.hq, ?_⟩
    · rw [getD_set2 ls a j [] (by rw [h.len]; exact ha)]
      by_cases hj : j = a
      · rw [if_pos hj]; exact .inr rfl
      · rw [if_neg hj]; exact h.el j
    · have e : lens (ls.set a [] ++ [p, q]) = (lens (ls ++ [p, q])).set a 0 := by
        unfold lens
        rw [← List.set_append_left a [] (by rw [h.len]; exact ha), List.map_set]
        rfl
      rw [e]
      have := count_set_le (lens (ls ++ [p, q])) a
      omega
  · rw [if_neg (by omega), if_pos ha, if_neg (by omega)]
    refine ⟨h.len, h.el, .inr rfl, h.hq, ?_⟩
    rw [lens_two] at hc ⊢
    rw [if_pos (show ([] : List Nat).length = 0 from rfl)]
    omega
  · rw [if_neg (by omega), if_neg (by omega), if_pos ha]
    refine ⟨h.len, h.el, h.hp, .inr rfl, ?_⟩
    rw [lens_two] at hc ⊢
    rw [if_pos (c := ([] : List Nat).length = 0) rfl]
    omega
theorem Lft.start {cs : List (List Nat)} {n : Nat} (hg : Good cs n) : Lft cs n cs (tab n (wP cs)) (tab n (wQ cs)) 0 := by
  refine ⟨rfl, fun j => .inl rfl, .inl rfl, .inl rfl, ?_⟩
  rw [lens_two, gone_count, ← hg.snd.lost, tab_len, tab_len]
  have := hg.snd.pos
  rw [if_neg (by omega)]
  exact Nat.le_refl _
end Go.Proofs.Ythjodjfjeamilaa.Pur
