/- Columns of one's own, and what Recover answers. -/
import Derived.Test.YthjodjfjeamilaaDlt
set_option linter.unusedVariables false
set_option linter.unusedSimpArgs false
namespace Go.Proofs.Ythjodjfjeamilaa.Pur
open Go Go.RowKit
/-- Which columns are lost, of the first i. -/
def goneTo (cs : List (List Nat)) (i : Nat) : List Nat := (List.range i).filter fun j => (cs.getD j []).length == 0
def gone (cs : List (List Nat)) : List Nat := goneTo cs cs.length
theorem goneTo_succ (cs : List (List Nat)) (i : Nat) : goneTo cs (i + 1) = if (cs.getD i []).length = 0 then goneTo cs i ++ [i] else goneTo cs i := by
  unfold goneTo
  rw [List.range_succ, List.filter_append]
  by_cases h : (cs.getD i []).length = 0
  · have hb : ((cs.getD i []).length == 0) = true := beq_iff_eq.2 h
    rw [if_pos h, List.filter_cons, if_pos hb]
    rfl
  · have hb : ¬ ((cs.getD i []).length == 0) = true := fun hb => h (beq_iff_eq.1 hb)
    rw [if_neg h, List.filter_cons, if_neg hb, List.filter_nil, List.append_nil]
theorem goneTo_lt {cs : List (List Nat)} {i j : Nat} (h : j ∈ goneTo cs i) : j < i ∧ (cs.getD j []).length = 0 := by
  unfold goneTo at h
  rw [List.mem_filter, List.mem_range] at h
  exact ⟨h.1, by simpa using h.2⟩
theorem mem_gone {cs : List (List Nat)} {j : Nat} (h : j < cs.length) (h0 : (cs.getD j []).length = 0) : j ∈ gone cs := by
  unfold gone goneTo
  rw [List.mem_filter, List.mem_range]
  exact ⟨h, by simpa using h0⟩
theorem goneTo_count (cs : List (List Nat)) : ∀ i, i ≤ cs.length → (goneTo cs i).length = (lens (cs.take i)).count 0
  | 0, _ => by simp [goneTo, lens]
  | i + 1, h => by
    rw [goneTo_succ, List.take_add_one, List.getElem?_eq_getElem (by omega)]
    have hd : cs.getD i [] = cs[i]'(by omega) := by rw [List.getD_eq_getElem?_getD, List.getElem?_eq_getElem (by omega)]; rfl
    have ih := goneTo_count cs i (by omega)
    unfold lens at *
    rw [List.map_append, List.count_append, ← ih, hd]
    by_cases h0 : (cs[i]'(by omega)).length = 0
    · rw [if_pos h0]
      simp [h0]
    · rw [if_neg h0]
      simp [List.count_cons, h0]
theorem gone_count (cs : List (List Nat)) : (gone cs).length = (lens cs).count 0 := by
  have h := goneTo_count cs cs.length (Nat.le_refl _)
  rw [List.take_length] at h
  exact h
theorem gone_sorted (cs : List (List Nat)) : (gone cs).Pairwise (· < ·) := by
  unfold gone goneTo
  exact List.Pairwise.filter _ List.pairwise_lt_range
/-- What is missing in P, in Q. -/
def ss (cs : List (List Nat)) (p : List Nat) (k : Nat) : Nat := wP cs k ^^^ Math.mul 1 (p.getD k 0)
def tt (cs : List (List Nat)) (q : List Nat) (k : Nat) : Nat := wQ cs k ^^^ Math.mul 1 (q.getD k 0)
theorem ss_lt {cs : List (List Nat)} {p : List Nat} (hc : Bytt cs) (k : Nat) : ss cs p k < 256 := Math.xor_lt (wP_lt hc k) (Math.mul_lt (by decide))
theorem tt_lt {cs : List (List Nat)} {q : List Nat} (hc : Bytt cs) (k : Nat) : tt cs q k < 256 := Math.xor_lt (wQ_lt hc k) (Math.mul_lt (by decide))
/-- The columns, those that were lost found. -/
def fill (cs : List (List Nat)) (p q : List Nat) (n : Nat) : List (List Nat) :=
  match gone cs with
  | [g] => cs.set g (if p.length = 0 then tab n (fun k => Math.mul (Math.inv (Math.e g)) (tt cs q k)) else tab n (ss cs p))
  | [g, h] => (cs.set g (tab n fun k => Math.solX 1 1 (Math.e g) (Math.e h) (ss cs p k) (tt cs q k))).set h (tab n fun k => Math.solY 1 1 (Math.e g) (Math.e h) (ss cs p k) (tt cs q k))
  | _ => cs
/-- Whether Recover can answer: the width. -/
def rcvW (cs : List (List Nat)) (p q : List Nat) : Nat × Nat := if cs.length < 1 ∨ 30 < cs.length then (0, 0) else wid (lens (cs ++ [p, q]))
/-- What Recover answers. -/
def rcv (cs : List (List Nat)) (p q : List Nat) : List (List Nat) × List Nat × List Nat × Int :=
  if (rcvW cs p q).1 = 0 then ([], [], [], 1)
  else if 2 < (rcvW cs p q).2 then ([], [], [], 8)
  else (fill cs p q (rcvW cs p q).1, if p.length = 0 then tab (rcvW cs p q).1 (wP (fill cs p q (rcvW cs p q).1)) else p, if q.length = 0 then tab (rcvW cs p q).1 (wQ (fill cs p q (rcvW cs p q).1)) else q, 0)
theorem set_bytt {cs : List (List Nat)} (h : Bytt cs) {g : Nat} {c : List Nat} (hc : Byt c) : Bytt (cs.set g c) := by
  intro x hx
  rcases List.mem_or_eq_of_mem_set hx with h1 | h1
  · exact h x h1
  · rw [h1]; exact hc
theorem sol_lt {g h s t : Nat} : Math.solX 1 1 g h s t < 256 ∧ Math.solY 1 1 g h s t < 256 := ⟨Math.mul_lt (Math.inv_lt (Math.det_lt (by decide) (by decide))), Math.mul_lt (Math.inv_lt (Math.det_lt (by decide) (by decide)))⟩
theorem fill_bytt {cs : List (List Nat)} {p q : List Nat} {n : Nat} (h : Bytt cs) : Bytt (fill cs p q n) := by
  unfold fill
  split
  · apply set_bytt h
    split
    · exact tab_byt fun k _ => Math.mul_lt (Math.inv_lt (Math.e_lt _))
    · exact tab_byt fun k _ => ss_lt h k
  · exact set_bytt (set_bytt h (tab_byt fun k _ => sol_lt.1)) (tab_byt fun k _ => sol_lt.2)
  · exact h
theorem set_len_le {cs : List (List Nat)} {n : Nat} (h : ∀ c ∈ cs, c.length ≤ n) {g : Nat} {c : List Nat} (hc : c.length ≤ n) : ∀ x ∈ cs.set g c, x.length ≤ n := by
  intro x hx
  rcases List.mem_or_eq_of_mem_set hx with h1 | h1
  · exact h x h1
  · rw [h1]; exact hc
theorem fill_le {cs : List (List Nat)} {p q : List Nat} {n : Nat} (h : ∀ c ∈ cs, c.length ≤ n) : ∀ c ∈ fill cs p q n, c.length ≤ n := by
  unfold fill
  split
  · apply set_len_le h
    split
    · rw [tab_len]; exact Nat.le_refl _
    · rw [tab_len]; exact Nat.le_refl _
  · exact set_len_le (set_len_le h (by rw [tab_len]; exact Nat.le_refl _)) (by rw [tab_len]; exact Nat.le_refl _)
  · exact h
theorem fill_len (cs : List (List Nat)) (p q : List Nat) (n : Nat) : (fill cs p q n).length = cs.length := by
  unfold fill
  split
  · rw [List.length_set]
  · rw [List.length_set, List.length_set]
  · rfl
theorem e_inj : ∀ g, g < 30 → ∀ h, h < 30 → Math.e g = Math.e h → g = h := by decide +kernel
theorem det_ne {g h : Nat} (hg : g < 30) (hh : h < 30) (hne : g ≠ h) : Math.det 1 1 (Math.e g) (Math.e h) ≠ 0 := by
  unfold Math.det
  rw [Math.one_mul _ (Math.e_lt h), Math.one_mul _ (Math.e_lt g)]
  intro h0
  exact hne (e_inj h hh g hg (Math.xor_eq_zero.1 h0)).symm
end Go.Proofs.Ythjodjfjeamilaa.Pur
namespace Go.Proofs.Ythjodjfjeamilaa.Wd
open Go Go.RowKit Go.Proofs.YthjodjfjeamilaaW.PrintWords Go.Proofs.YthjodjfjeamilaaW.PrintLast Go.Proofs.YthjodjfjeamilaaW.PrintMore Go.Proofs.Ythjodjfjeamilaa.Bridge Go.Proofs.Ythjodjfjeamilaa.PA Go.Proofs.Ythjodjfjeamilaa.BrPA Go.Proofs.Ythjodjfjeamilaa.Pur
/-- Columns of one's own: their slice values ys, no two of one block. -/
structure Cols (w : World) (base : Nat) (v : Value) (ys : List Value) (cs : List (List Nat)) : Prop where
  len : ys.length = cs.length
  own : w.ownsRow base 24 1 v cs.length ys
  el : ∀ (j : Nat) y c, ys[j]? = some y → cs[j]? = some c → Own w base y c
  apart : ∀ (i j : Nat) yi yj k, ys[i]? = some yi → ys[j]? = some yj → yi.ownBlock = some k → yj.ownBlock = some k → i = j
theorem Cols.nil (w : World) (base : Nat) : Cols w base (.slice none 0 0) [] [] := ⟨rfl, World.ownsRow_nil _ _ _ _, fun j y c h => by simp at h, fun i j yi yj k h => by simp at h⟩
theorem Cols.below {w w' : World} {base : Nat} {v : Value} {ys : List Value} {cs : List (List Nat)} (h : Cols w base v ys cs) (hb : Below w.heap.size w w') : Cols w' base v ys cs :=
  ⟨h.len, own_below h.own hb, fun j y c h1 h2 => own_belowB (h.el j y c h1 h2) hb, h.apart⟩
/-- Another row of bytes has been written. -/
theorem Cols.far {w w' : World} {base : Nat} {v : Value} {ys : List Value} {cs : List (List Nat)} (h : Cols w base v ys cs) {S : Nat → Prop} (hk : Kept w w' S) (hS : ∀ (j : Nat) y k, ys[j]? = some y → y.ownBlock = some k → ¬ S k) (hv : ∀ k, v.ownBlock = some k → ¬ S k) : Cols w' base v ys cs :=
  ⟨h.len, own_move h.own (fun k hk' => hk.2 k (own_lt h.own k hk') (hv k hk')), fun j y c h1 h2 => own_far (h.el j y c h1 h2) hk (fun k h3 => hS j y k h1 h3), h.apart⟩
theorem Cols.ne {w : World} {base b2 : Nat} {v u : Value} {ys : List Value} {cs : List (List Nat)} {l : List Nat} (h : Cols w base v ys cs) (hu : Own w b2 u l) : ∀ k, v.ownBlock = some k → some k ≠ u.ownBlock := by
  intro k hk he
  obtain ⟨cells, hc⟩ := own_typed h.own k hk
  exact own_blk hu hc (by decide) he.symm
/-- They are read. -/
theorem Cols.C {w : World} {base : Nat} {v : Value} {ys : List Value} {cs : List (List Nat)} (h : Cols w base v ys cs) (hm : cs.length ≤ 9223372036854775807) : ∃ A c, v = .slice A (II cs).length c ∧ (II cs).length ≤ c ∧ Kd.C (Kd.slice 5 (Kd.int .u8)) w A (II cs).length (II cs) := by
  obtain ⟨A, cap, rfl, hn, hc⟩ := own_form h.own
  refine ⟨A, cap, by rw [II_len], by rw [II_len]; exact hn, rfl, by rw [II_len]; exact hm, fun h0 => ?_⟩
  rw [II_len] at h0
  obtain ⟨r, rfl, _, hl⟩ := own_addr h.own h0
  refine ⟨_, rfl, fun j q hq => ?_⟩
  unfold II at hq
  rw [List.getElem?_map] at hq
  obtain ⟨c, hcj, rfl⟩ := Option.map_eq_some_iff.1 hq
  have hj : j < cs.length := (List.getElem?_eq_some_iff.1 hcj).1
  have hyj : ys[j]? = some (ys[j]'(by rw [h.len]; exact hj)) := List.getElem?_eq_getElem _
  obtain ⟨A', c', he, h1, h2⟩ := (h.el j _ c hyj hcj).form
  refine ⟨[ys[j]'(by rw [h.len]; exact hj)], rfl, ⟨A', c', by rw [he], h1, h2⟩, fun i u hu => ?_⟩
  have hi : i = 0 := by have := (List.getElem?_eq_some_iff.1 hu).1; simp at this; exact this
  subst hi
  simp only [List.getElem?_cons_zero, Option.some.injEq] at hu
  subst hu
  rw [show j * (Kd.slice 5 (Kd.int .u8)).sz + 0 = j from by show j * 1 + 0 = j; omega, addr_add, Nat.zero_add, own_cell h.own (by omega), hyj]
/-- In the print's form. -/
theorem Cols.S {w : World} {base : Nat} {v : Value} {ys : List Value} {cs : List (List Nat)} (h : Cols w base v ys cs) {ok : Nat → Prop} (hv : ∀ k, v.ownBlock = some k → ok k) (hy : ∀ (j : Nat) y k, ys[j]? = some y → y.ownBlock = some k → ok k) : Kd.S (Kd.slice 5 (Kd.int .u8)) 24 w base ok v (II cs) := by
  have hF : ∀ k : Nat, ∃ i : Nat, ∀ (j : Nat) y, ys[j]? = some y → y.ownBlock = some k → j = i := by
    intro k
    by_cases hx : ∃ (i : Nat) (y : Value), ys[i]? = some y ∧ y.ownBlock = some k
    · obtain ⟨i, y, h1, h2⟩ := hx
      exact ⟨i, fun j y' h3 h4 => h.apart j i y' y k h3 h1 h4 h2⟩
    · exact ⟨0, fun j y h1 h2 => absurd ⟨j, y, h1, h2⟩ hx⟩
  obtain ⟨f, hf⟩ := Classical.skolem.1 hF
  refine ⟨f, hv, ys, ?_, ?_⟩
  · rw [List.length_zipIdx, II_len]
    exact h.own
  · refine ⟨?_, fun j p hj => ?_⟩
    · rw [List.length_zipIdx, II_len, h.len]
      show cs.length = cs.length * 1
      omega
    · rw [List.getElem?_zipIdx] at hj
      obtain ⟨q, hq, rfl⟩ := Option.map_eq_some_iff.1 hj
      unfold II at hq
      rw [List.getElem?_map] at hq
      obtain ⟨c, hcj, rfl⟩ := Option.map_eq_some_iff.1 hq
      have hjl : j < cs.length := (List.getElem?_eq_some_iff.1 hcj).1
      have hyj : ys[j]? = some (ys[j]'(by rw [h.len]; exact hjl)) := List.getElem?_eq_getElem _
      have ho := h.el j _ c hyj hcj
      show (Kd.slice 5 (Kd.int .u8)).M w base _ (I c) _
      refine ⟨ys[j]'(by rw [h.len]; exact hjl), ?_, own_R ho (fun k hk => ?_)⟩
      · show (ys.drop (j * 1)).take 1 = _
        rw [Nat.mul_one, List.drop_eq_getElem_cons (by rw [h.len]; exact hjl)]
        rfl
      · refine ⟨⟨hy j _ k hyj hk, fun he => ?_⟩, ?_⟩
        · obtain ⟨cells, hc⟩ := own_typed h.own k he.symm
          exact own_blk ho hc (by decide) hk
        · rw [hf k j _ hyj hk]
          omega
end Go.Proofs.Ythjodjfjeamilaa.Wd
