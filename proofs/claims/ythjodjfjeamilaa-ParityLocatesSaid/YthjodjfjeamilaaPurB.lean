/- What the printed leaf functions of parity come to: the document's sums and Encode, comparisons, copies, one and two lost columns. -/
import Derived.Test.YthjodjfjeamilaaPurA
set_option linter.unusedVariables false
set_option linter.unusedSimpArgs false
namespace Go.Proofs.Ythjodjfjeamilaa.Pur
open Go Go.RowKit Go.Proofs.YthjodjfjeamilaaW.PrintWords Go.Proofs.YthjodjfjeamilaaW.PrintLast Go.Proofs.YthjodjfjeamilaaW.PrintMore Go.Proofs.Ythjodjfjeamilaa.Bridge Go.Proofs.Ythjodjfjeamilaa.PA Go.Proofs.Ythjodjfjeamilaa.BrPA
theorem getD_mem {cs : List (List Nat)} {i : Nat} (h : i < cs.length) : cs.getD i [] ∈ cs := by
  rw [List.getD_eq_getElem?_getD, List.getElem?_eq_getElem h]
  exact List.getElem_mem _
theorem at_f (c : List Nat) (k : Nat) (h : c.length = 0 ∨ k < c.length) : ravelinref05_at.f (I c) (k : Int) = some ((c.getD k 0 : Nat) : Int) := by
  unfold ravelinref05_at.f
  rw [I_len]
  by_cases h0 : c.length = 0
  · rw [if_pos (by omega), getD_far (by omega)]; rfl
  · rw [if_neg (by omega), if_pos (by omega), if_pos (by omega), rd_I]
theorem rsums_l0 (cs : List (List Nat)) (hc : Bytt cs) (kk : Nat) (hk : ∀ c ∈ cs, c.length = 0 ∨ kk < c.length) (hcn : cs.length < 4611686018427387904) :
    ∀ d i, cs.length - i = d → i ≤ cs.length → Ev (fun k => ravelinref05_sums.l0 k (II cs) (kk : Int) ((ws one cs i kk : Nat) : Int) ((ws Math.e cs i kk : Nat) : Int) ((Math.e i : Nat) : Int) (i : Int)) (((wP cs kk : Nat) : Int), ((wQ cs kk : Nat) : Int)) := by
  intro d
  induction d with
  | zero =>
    intro i hd hi
    obtain rfl : i = cs.length := by omega
    refine Ev.step (f := fun k => _) (fun k => by rw [ravelinref05_sums.l0]) ?_
    exact Ev.ite_neg (by rw [II_len]; omega) (Ev.now _)
  | succ d ih =>
    intro i hd hi
    refine Ev.step (f := fun k => _) (fun k => by rw [ravelinref05_sums.l0]) ?_
    refine Ev.ite_pos (by rw [II_len]; omega) (Ev.ite_pos (by omega) ?_)
    rw [rd_II, at_f _ _ (hk _ (getD_mem (by omega)))]
    have hb := byt_get (bytt_get hc i) kk
    have he := Math.e_lt i
    have hp := ws_lt one cs one_lt hc i kk
    have hq := ws_lt Math.e cs Math.e_lt hc i kk
    simp only [Option.bind_some]
    refine Ev.bind (rmul_ev _ _ he hb) (Ev.bind (rmul_ev _ 2 he (by decide)) ?_)
    rw [xor_u8 _ _ hp hb, xor_u8 _ _ hq (Math.mul_lt he), show (i : Int) + 1 = ((i + 1 : Nat) : Int) by omega, wrap64_nat _ (by omega)]
    have e1 : ws one cs i kk ^^^ (cs.getD i []).getD kk 0 = ws one cs (i + 1) kk := by
      show _ = ws one cs i kk ^^^ Math.mul 1 _
      rw [Math.one_mul _ hb]
    have e2 : Math.mul (Math.e i) 2 = Math.e (i + 1) := by rw [Math.mul_two _ he]; rfl
    rw [e1, e2]
    exact ih (i + 1) (by omega) (by omega)
theorem rsums_ev (cs : List (List Nat)) (hc : Bytt cs) (kk : Nat) (hk : ∀ c ∈ cs, c.length = 0 ∨ kk < c.length) (hcn : cs.length < 4611686018427387904) :
    Ev (fun k => ravelinref05_sums.f k (II cs) (kk : Int)) (((wP cs kk : Nat) : Int), ((wQ cs kk : Nat) : Int)) := by
  have h := rsums_l0 cs hc kk hk hcn cs.length 0 (by omega) (by omega)
  unfold ravelinref05_sums.f
  exact h
/-! ### the document's Encode -/
/-- Data columns that can be encoded: n bytes each. -/
structure Good (cs : List (List Nat)) (n : Nat) : Prop where
  lo : 1 ≤ cs.length
  hi : cs.length ≤ 30
  snd : Snd (lens cs) n 0
theorem Good.len {cs : List (List Nat)} {n : Nat} (h : Good cs n) : ∀ c ∈ cs, c.length = n := by
  intro c hc
  have hm : c.length ∈ lens cs := List.mem_map.2 ⟨c, hc, rfl⟩
  rcases h.snd.all _ hm with h0 | h0
  · exfalso
    have := h.snd.lost
    rw [h0] at hm
    have := List.count_pos_iff.2 hm
    omega
  · exact h0
theorem Good.of {cs : List (List Nat)} {n : Nat} (h1 : 1 ≤ cs.length) (h2 : cs.length ≤ 30) (h3 : 1 ≤ n) (h4 : n ≤ 4096) (h : ∀ c ∈ cs, c.length = n) : Good cs n := by
  have ha : ∀ k ∈ lens cs, k = n := by
    intro k hk
    obtain ⟨c, hc, rfl⟩ := List.mem_map.1 hk
    exact h c hc
  refine ⟨h1, h2, h3, h4, ?_, fun k hk => .inr (ha k hk), ?_⟩
  · obtain ⟨c, cs, rfl⟩ : ∃ c l, cs = c :: l := by cases cs with
      | nil => simp at h1
      | cons c l => exact ⟨c, l, rfl⟩
    rw [← h c List.mem_cons_self]
    exact List.mem_map.2 ⟨c, List.mem_cons_self, rfl⟩
  · symm
    rw [List.count_eq_zero]
    intro h0
    have := ha 0 h0
    omega
theorem Good.uniq {cs : List (List Nat)} {n m : Nat} (h : Good cs n) (k : Good cs m) : n = m := by
  obtain ⟨c, hc⟩ : ∃ c, c ∈ cs := by
    cases cs with
    | nil => exact absurd h.lo (by simp)
    | cons c l => exact ⟨c, List.mem_cons_self⟩
  rw [← h.len c hc, ← k.len c hc]
theorem fits_f (cs : List (List Nat)) : ravelinref05_fits.f (II cs) = some (decide (1 ≤ cs.length ∧ cs.length ≤ 30)) := by
  unfold ravelinref05_fits.f
  rw [II_len]
  by_cases h : 1 ≤ cs.length
  · rw [if_pos (by omega)]
    congr 1
    rw [Bool.eq_iff_iff]; simp; omega
  · rw [if_neg (by omega)]
    congr 1
    rw [eq_comm, decide_eq_false_iff_not]; omega
theorem tab_snoc (n : Nat) (f : Nat → Nat) : I (tab n f) ++ [((f n : Nat) : Int)] = I (tab (n + 1) f) := by
  unfold tab I
  rw [List.range_succ, List.map_append, List.map_append]; rfl
theorem renc_l0 (cs : List (List Nat)) (n : Nat) (hc : Bytt cs) (hn : n ≤ 4096) (hcn : cs.length ≤ 30) (hk : ∀ c ∈ cs, c.length = n) :
    ∀ d i, n - i = d → i ≤ n → Ev (fun k => ravelinref05_Encode.l0 k (II cs) (n : Int) (I (tab i (wP cs))) (I (tab i (wQ cs))) (i : Int)) (I (tab n (wP cs)), I (tab n (wQ cs)), (0 : Int)) := by
  intro d
  induction d with
  | zero =>
    intro i hd hi
    obtain rfl : i = n := by omega
    refine Ev.step (f := fun k => _) (fun k => by rw [ravelinref05_Encode.l0]) ?_
    exact Ev.ite_neg (by omega) (Ev.now _)
  | succ d ih =>
    intro i hd hi
    refine Ev.step (f := fun k => _) (fun k => by rw [ravelinref05_Encode.l0]) ?_
    refine Ev.ite_pos (by omega) (Ev.bind (rsums_ev cs hc i (fun c hm => .inr (by rw [hk c hm]; omega)) (by omega)) ?_)
    refine Ev.ite_pos (by rw [I_len, tab_len]; omega) (Ev.ite_pos (by rw [I_len, tab_len]; omega) ?_)
    rw [tab_snoc, tab_snoc, show (i : Int) + 1 = ((i + 1 : Nat) : Int) by omega, wrap64_nat _ (by omega)]
    exact ih (i + 1) (by omega) (by omega)
theorem renc_ok (cs : List (List Nat)) (n : Nat) (hc : Bytt cs) (hg : Good cs n) :
    Ev (fun k => ravelinref05_Encode.f k (II cs)) (I (tab n (wP cs)), I (tab n (wQ cs)), (0 : Int)) := by
  have hlen := hg.len
  have hw := width_ev cs (fun c hm => by rw [hlen c hm]; have := hg.snd.lim; omega) (by have := hg.hi; omega)
  rw [widR_snd n hg.snd.pos hg.snd.lim _ 0 0 (.inl rfl) hg.snd.all (.inr hg.snd.mem)] at hw
  have hl0 : 0 + (lens cs).count 0 = 0 := by have := hg.snd.lost; omega
  rw [hl0] at hw
  have hp := hg.snd.pos
  unfold ravelinref05_Encode.f
  refine Ev.bind hw ?_
  rw [fits_f, decide_eq_true ⟨hg.lo, hg.hi⟩]
  simp only [Option.bind_some]
  refine Ev.ite_pos (by simp) (Ev.ite_neg (by omega) ?_)
  refine Ev.step (f := fun k => _) (fun k => by rw [ravelinref05_Encode.j0]) ?_
  refine Ev.ite_neg (by simp) ?_
  exact renc_l0 cs n hc hg.snd.lim hg.hi hlen n 0 (by omega) (by omega)
theorem renc_bad (cs : List (List Nat)) (hcl : ∀ c ∈ cs, c.length < 4611686018427387904) (hcn : cs.length < 4611686018427387904) (hg : ∀ n, ¬ Good cs n) :
    Ev (fun k => ravelinref05_Encode.f k (II cs)) (([] : List Int), ([] : List Int), (1 : Int)) := by
  have hw := width_ev cs hcl hcn
  unfold ravelinref05_Encode.f
  refine Ev.bind hw ?_
  rw [fits_f]
  simp only [Option.bind_some]
  have hj : ∀ x : Int, Ev (fun k => ravelinref05_Encode.j0 k (II cs) x true) (([] : List Int), ([] : List Int), (1 : Int)) := fun x => by
    refine Ev.step (f := fun k => _) (fun k => by rw [ravelinref05_Encode.j0]) ?_
    exact Ev.ite_pos rfl (Ev.now _)
  by_cases hf : 1 ≤ cs.length ∧ cs.length ≤ 30
  · rw [decide_eq_true hf]
    refine Ev.ite_pos rfl ?_
    rcases wid_cases (lens cs) with ⟨n, l, hs, h1, h2⟩ | ⟨_, h1, h2⟩
    · rw [h1]
      have hl : l ≠ 0 := by
        rintro rfl
        exact hg n ⟨hf.1, hf.2, hs⟩
      have := hs.pos
      refine Ev.ite_neg (by simp only; omega) ?_
      rw [decide_eq_true (by simp only; omega)]
      exact hj _
    · exact Ev.ite_pos (by omega) (hj _)
  · rw [decide_eq_false hf]
    exact Ev.ite_neg (by decide) (hj _)
/-! ### comparisons, copies -/
theorem rd_get (l : List Int) (i : Nat) (h : i < l.length) : rd l (i : Int) = l[i] := by
  unfold rd
  rw [Int.toNat_natCast, List.getD_eq_getElem?_getD, List.getElem?_eq_getElem h]; rfl
theorem rdL_get (l : List (List Int)) (i : Nat) (h : i < l.length) : rd_L1 l (i : Int) = l[i] := by
  unfold rd_L1
  rw [Int.toNat_natCast, List.getD_eq_getElem?_getD, List.getElem?_eq_getElem h]; rfl
theorem drop_eq_step {α : Type} [DecidableEq α] {l m : List α} {i : Nat} (h1 : i < l.length) (h2 : i < m.length) : decide (l.drop i = m.drop i) = (decide (l[i] = m[i]) && decide (l.drop (i + 1) = m.drop (i + 1))) := by
  rw [List.drop_eq_getElem_cons h1, List.drop_eq_getElem_cons h2, Bool.eq_iff_iff, Bool.and_eq_true, decide_eq_true_iff, decide_eq_true_iff, decide_eq_true_iff, List.cons.injEq]
theorem same_l0 (l m : List Int) (hl : l.length = m.length) (hb : l.length < 4611686018427387904) :
    ∀ d i, l.length - i = d → i ≤ l.length → Ev (fun k => ravelinref04_SameBytes.l0 k l m (i : Int)) (decide (l.drop i = m.drop i)) := by
  intro d
  induction d with
  | zero =>
    intro i hd hi
    refine Ev.step (f := fun k => _) (fun k => by rw [ravelinref04_SameBytes.l0]) ?_
    rw [List.drop_eq_nil_of_le (by omega), List.drop_eq_nil_of_le (by omega)]
    exact Ev.ite_neg (by omega) (Ev.now _)
  | succ d ih =>
    intro i hd hi
    refine Ev.step (f := fun k => _) (fun k => by rw [ravelinref04_SameBytes.l0]) ?_
    refine Ev.ite_pos (by omega) (Ev.ite_pos (by omega) (Ev.ite_pos (by omega) ?_))
    rw [rd_get l i (by omega), rd_get m i (by omega), drop_eq_step (by omega) (by omega)]
    by_cases h : l[i]'(by omega) = m[i]'(by omega)
    · rw [decide_eq_true h, Bool.true_and]
      refine Ev.ite_pos h ?_
      rw [show (i : Int) + 1 = ((i + 1 : Nat) : Int) by omega, wrap64_nat _ (by omega)]
      exact ih (i + 1) (by omega) (by omega)
    · rw [decide_eq_false h, Bool.false_and]
      exact Ev.ite_neg h (Ev.now _)
theorem same_ev (l m : List Int) (hb : l.length < 4611686018427387904) : Ev (fun k => ravelinref04_SameBytes.f k l m) (decide (l = m)) := by
  unfold ravelinref04_SameBytes.f
  by_cases hl : l.length = m.length
  · exact Ev.ite_pos (by omega) (same_l0 l m hl hb l.length 0 (by omega) (by omega))
  · rw [decide_eq_false (by rintro rfl; exact hl rfl)]
    exact Ev.ite_neg (by omega) (Ev.now _)
theorem lsame_ev (l m : List Int) (hb : l.length < 4611686018427387904) : Ev (fun k => ravelinlaw05_same.f k l m) (decide (l = m)) := by
  unfold ravelinlaw05_same.f
  exact Ev.bind (same_ev l m hb) (Ev.now _)
theorem equal_l0 (l m : List Int) (hl : l.length = m.length) (hb : l.length < 4611686018427387904) :
    ∀ d i, l.length - i = d → i ≤ l.length → Ev (fun k => slices_Equal_byte_byte.l0 k l m (l.length : Int) (i : Int)) (decide (l.drop i = m.drop i)) := by
  intro d
  induction d with
  | zero =>
    intro i hd hi
    refine Ev.step (f := fun k => _) (fun k => by rw [slices_Equal_byte_byte.l0]) ?_
    rw [List.drop_eq_nil_of_le (by omega), List.drop_eq_nil_of_le (by omega)]
    exact Ev.ite_neg (by omega) (Ev.now _)
  | succ d ih =>
    intro i hd hi
    refine Ev.step (f := fun k => _) (fun k => by rw [slices_Equal_byte_byte.l0]) ?_
    refine Ev.ite_pos (by omega) (Ev.ite_pos (by omega) (Ev.ite_pos (by omega) (Ev.ite_pos (by omega) ?_)))
    rw [rd_get l i (by omega), rd_get m i (by omega), drop_eq_step (by omega) (by omega)]
    by_cases h : l[i]'(by omega) = m[i]'(by omega)
    · rw [decide_eq_true h, Bool.true_and]
      refine Ev.ite_pos h ?_
      rw [show (i : Int) + 1 = ((i + 1 : Nat) : Int) by omega, wrap64_nat _ (by omega)]
      exact ih (i + 1) (by omega) (by omega)
    · rw [decide_eq_false h, Bool.false_and]
      exact Ev.ite_neg h (Ev.now _)
theorem equal_ev (l m : List Int) (hb : l.length < 4611686018427387904) : Ev (fun k => slices_Equal_byte_byte.f k l m) (decide (l = m)) := by
  unfold slices_Equal_byte_byte.f
  by_cases hl : l.length = m.length
  · exact Ev.ite_pos (by omega) (equal_l0 l m hl hb l.length 0 (by omega) (by omega))
  · rw [decide_eq_false (by rintro rfl; exact hl rfl)]
    exact Ev.ite_neg (by omega) (Ev.now _)
theorem cols_l0 (l m : List (List Int)) (hl : l.length = m.length) (hb : l.length < 4611686018427387904) (hc : ∀ c ∈ l, c.length < 4611686018427387904) :
    ∀ d i, l.length - i = d → i ≤ l.length → Ev (fun k => ravelinref05_SameCols.l0 k l m (i : Int)) (decide (l.drop i = m.drop i)) := by
  intro d
  induction d with
  | zero =>
    intro i hd hi
    refine Ev.step (f := fun k => _) (fun k => by rw [ravelinref05_SameCols.l0]) ?_
    rw [List.drop_eq_nil_of_le (by omega), List.drop_eq_nil_of_le (by omega)]
    exact Ev.ite_neg (by omega) (Ev.now _)
  | succ d ih =>
    intro i hd hi
    refine Ev.step (f := fun k => _) (fun k => by rw [ravelinref05_SameCols.l0]) ?_
    refine Ev.ite_pos (by omega) (Ev.ite_pos (by omega) (Ev.ite_pos (by omega) ?_))
    rw [rdL_get l i (by omega), rdL_get m i (by omega), drop_eq_step (by omega) (by omega)]
    refine Ev.bind (same_ev _ _ (hc _ (List.getElem_mem _))) ?_
    by_cases h : l[i]'(by omega) = m[i]'(by omega)
    · rw [decide_eq_true h, Bool.true_and]
      refine Ev.ite_pos rfl ?_
      rw [show (i : Int) + 1 = ((i + 1 : Nat) : Int) by omega, wrap64_nat _ (by omega)]
      exact ih (i + 1) (by omega) (by omega)
    · rw [decide_eq_false h, Bool.false_and]
      exact Ev.ite_neg (by decide) (Ev.now _)
theorem cols_ev (l m : List (List Int)) (hb : l.length < 4611686018427387904) (hc : ∀ c ∈ l, c.length < 4611686018427387904) : Ev (fun k => ravelinref05_SameCols.f k l m) (decide (l = m)) := by
  unfold ravelinref05_SameCols.f
  by_cases hl : l.length = m.length
  · exact Ev.ite_pos (by omega) (cols_l0 l m hl hb hc l.length 0 (by omega) (by omega))
  · rw [decide_eq_false (by rintro rfl; exact hl rfl)]
    exact Ev.ite_neg (by omega) (Ev.now _)
theorem copies_l0 (l : List (List Int)) (hb : l.length ≤ 5864062014805) (hc : ∀ c ∈ l, c.length < 140737488355328) :
    ∀ d i, l.length - i = d → i ≤ l.length → Ev (fun k => ravelinlaw05_copies.l0 k l (l.take i) (i : Int)) l := by
  intro d
  induction d with
  | zero =>
    intro i hd hi
    refine Ev.step (f := fun k => _) (fun k => by rw [ravelinlaw05_copies.l0]) ?_
    have e : l.take i = l := List.take_of_length_le (by omega)
    rw [e]
    exact Ev.ite_neg (by omega) (Ev.now _)
  | succ d ih =>
    intro i hd hi
    refine Ev.step (f := fun k => _) (fun k => by rw [ravelinlaw05_copies.l0]) ?_
    refine Ev.ite_pos (by omega) ?_
    simp only [Option.bind_some]
    rw [rdL_get l i (by omega)]
    have hci := hc _ (List.getElem_mem (show i < l.length by omega))
    refine Ev.ite_pos (by omega) (Ev.ite_pos (by simp only [List.length_nil]; omega) (Ev.ite_pos (by rw [List.length_take]; omega) ?_))
    rw [List.nil_append, show (i : Int) + 1 = ((i + 1 : Nat) : Int) by omega, wrap64_nat _ (by omega)]
    have e : l.take i ++ [l[i]'(by omega)] = l.take (i + 1) := by rw [List.take_add_one, List.getElem?_eq_getElem (by omega)]; rfl
    rw [e]
    exact ih (i + 1) (by omega) (by omega)
theorem copies_ev (l : List (List Int)) (hb : l.length ≤ 5864062014805) (hc : ∀ c ∈ l, c.length < 140737488355328) : Ev (fun k => ravelinlaw05_copies.f k l) l := by
  unfold ravelinlaw05_copies.f
  exact copies_l0 l hb hc l.length 0 (by omega) (by omega)
/-! ### one, two -/
theorem one_p (cs : List (List Nat)) (hc : Bytt cs) (p q : List Nat) (hp : Byt p) (i kk : Nat) (hk : ∀ c ∈ cs, c.length = 0 ∨ kk < c.length) (hcn : cs.length < 4611686018427387904) (hkp : kk < p.length) :
    Ev (fun k => ravelinref05_one.f k (II cs) (I p) (I q) (i : Int) (kk : Int)) ((wP cs kk ^^^ p.getD kk 0 : Nat) : Int) := by
  unfold ravelinref05_one.f
  refine Ev.bind (rsums_ev cs hc kk hk hcn) ?_
  refine Ev.ite_pos (by rw [I_len]; omega) (Ev.ite_pos (by omega) (Ev.ite_pos (by rw [I_len]; omega) ?_))
  rw [rd_I, xor_u8 _ _ (wP_lt hc kk) (byt_get hp kk)]
  exact Ev.now _
theorem one_q (cs : List (List Nat)) (hc : Bytt cs) (q : List Nat) (hq : Byt q) (i kk : Nat) (hk : ∀ c ∈ cs, c.length = 0 ∨ kk < c.length) (hcn : cs.length < 4611686018427387904) (hkq : kk < q.length) :
    Ev (fun k => ravelinref05_one.f k (II cs) (I []) (I q) (i : Int) (kk : Int)) ((Math.mul (wQ cs kk ^^^ q.getD kk 0) (Math.inv (Math.e i)) : Nat) : Int) := by
  unfold ravelinref05_one.f
  refine Ev.bind (rsums_ev cs hc kk hk hcn) ?_
  refine Ev.ite_neg (by simp [I]) (Ev.ite_pos (by omega) (Ev.ite_pos (by rw [I_len]; omega) ?_))
  have hx := rexp_ev (i : Int)
  rw [e_rnd] at hx
  refine Ev.bind hx ?_
  rw [rd_I, xor_u8 _ _ (wQ_lt hc kk) (byt_get hq kk)]
  refine Ev.bind (rdiv_ev _ _ (Math.xor_lt (wQ_lt hc kk) (byt_get hq kk)) (Math.e_lt i) (Math.e_ne i)) ?_
  exact Ev.now _
theorem two_l0 (p q : List Nat) (hp : Byt p) (hq : Byt q) (kk s t gi gj : Nat) (hkp : kk < p.length) (hkq : kk < q.length) (hs : s < 256) (ht : t < 256) (hgi : gi < 256) (hgj : gj < 256) (hne : Math.det 1 1 gi gj ≠ 0) :
    ∀ d a, Math.solX 1 1 gi gj (s ^^^ p.getD kk 0) (t ^^^ q.getD kk 0) - a = d → a ≤ Math.solX 1 1 gi gj (s ^^^ p.getD kk 0) (t ^^^ q.getD kk 0) →
      Ev (fun k => ravelinref05_two.l0 k (I p) (I q) (kk : Int) (s : Int) (t : Int) (gi : Int) (gj : Int) (a : Int)) (((Math.solX 1 1 gi gj (s ^^^ p.getD kk 0) (t ^^^ q.getD kk 0) : Nat) : Int), ((Math.solY 1 1 gi gj (s ^^^ p.getD kk 0) (t ^^^ q.getD kk 0) : Nat) : Int)) := by
  have hpb := byt_get hp kk
  have hqb := byt_get hq kk
  have hS := Math.xor_lt hs hpb
  have hT := Math.xor_lt ht hqb
  have hX : Math.solX 1 1 gi gj (s ^^^ p.getD kk 0) (t ^^^ q.getD kk 0) < 256 := Math.mul_lt (Math.inv_lt (Math.det_lt (by decide) (by decide)))
  have hY : Math.solY 1 1 gi gj (s ^^^ p.getD kk 0) (t ^^^ q.getD kk 0) < 256 := Math.mul_lt (Math.inv_lt (Math.det_lt (by decide) (by decide)))
  have hsv := Math.sol_solves (a := 1) (b := 1) (c := gi) (d := gj) (f := s ^^^ p.getD kk 0) (g := t ^^^ q.getD kk 0) (by decide) (by decide) hgi hgj hS hT hne
  have huq := fun (x y : Nat) (hx : x < 256) (hy : y < 256) => Math.sol_unique (a := 1) (b := 1) (c := gi) (d := gj) (x := x) (y := y) (f := s ^^^ p.getD kk 0) (g := t ^^^ q.getD kk 0) (by decide) (by decide) hgi hgj hx hy hne
  generalize Math.solX 1 1 gi gj (s ^^^ p.getD kk 0) (t ^^^ q.getD kk 0) = X at *
  generalize Math.solY 1 1 gi gj (s ^^^ p.getD kk 0) (t ^^^ q.getD kk 0) = Y at *
  rw [Math.one_mul _ hX, Math.one_mul _ hY] at hsv
  have hYe : (s ^^^ p.getD kk 0) ^^^ X = Y := by rw [← hsv.1, Nat.xor_comm X Y, Nat.xor_assoc, Nat.xor_self, Nat.xor_zero]
  intro d
  induction d with
  | zero =>
    intro a hd ha
    obtain rfl : a = X := by omega
    refine Ev.step (f := fun k => _) (fun k => by rw [ravelinref05_two.l0]) ?_
    refine Ev.ite_pos (by omega) (Ev.ite_pos (by omega) (Ev.ite_pos (by rw [I_len]; omega) ?_))
    rw [rd_I, rd_I, show ((a : Int) % 256) = (a : Int) by omega, xor_u8 _ _ hs hpb, xor_u8 _ _ hS hX, xor_u8 _ _ ht hqb, hYe]
    refine Ev.bind (rmul_ev _ _ hgi hX) (Ev.bind (rmul_ev _ _ hgj hY) (Ev.ite_pos (by rw [I_len]; omega) ?_))
    rw [xor_u8 _ _ (Math.mul_lt hgi) (Math.mul_lt hgj)]
    exact Ev.ite_pos (by rw [hsv.2]) (Ev.now _)
  | succ d ih =>
    intro a hd ha
    refine Ev.step (f := fun k => _) (fun k => by rw [ravelinref05_two.l0]) ?_
    refine Ev.ite_pos (by omega) (Ev.ite_pos (by omega) (Ev.ite_pos (by rw [I_len]; omega) ?_))
    have hab : a < 256 := by omega
    have hyb := Math.xor_lt hS hab
    rw [rd_I, rd_I, show ((a : Int) % 256) = (a : Int) by omega, xor_u8 _ _ hs hpb, xor_u8 _ _ hS hab, xor_u8 _ _ ht hqb]
    refine Ev.bind (rmul_ev _ _ hgi hab) (Ev.bind (rmul_ev _ _ hgj hyb) (Ev.ite_pos (by rw [I_len]; omega) ?_))
    rw [xor_u8 _ _ (Math.mul_lt hgi) (Math.mul_lt hgj)]
    refine Ev.ite_neg (fun hh => ?_) ?_
    · have h1 := (huq a _ hab hyb (by rw [Math.one_mul _ hab, Math.one_mul _ hyb, Nat.xor_comm, Nat.xor_assoc, Nat.xor_self, Nat.xor_zero]) (by omega)).1
      omega
    · rw [show (a : Int) + 1 = ((a + 1 : Nat) : Int) by omega, wrap64_nat _ (by omega)]
      exact ih (a + 1) (by omega) (by omega)
theorem two_ev (cs : List (List Nat)) (hc : Bytt cs) (p q : List Nat) (hp : Byt p) (hq : Byt q) (i j kk : Nat) (hk : ∀ c ∈ cs, c.length = 0 ∨ kk < c.length) (hcn : cs.length < 4611686018427387904) (hkp : kk < p.length) (hkq : kk < q.length) (hne : Math.det 1 1 (Math.e i) (Math.e j) ≠ 0) :
    Ev (fun k => ravelinref05_two.f k (II cs) (I p) (I q) (i : Int) (j : Int) (kk : Int)) (((Math.solX 1 1 (Math.e i) (Math.e j) (wP cs kk ^^^ p.getD kk 0) (wQ cs kk ^^^ q.getD kk 0) : Nat) : Int), ((Math.solY 1 1 (Math.e i) (Math.e j) (wP cs kk ^^^ p.getD kk 0) (wQ cs kk ^^^ q.getD kk 0) : Nat) : Int)) := by
  unfold ravelinref05_two.f
  refine Ev.bind (rsums_ev cs hc kk hk hcn) ?_
  have hi := rexp_ev (i : Int)
  have hj := rexp_ev (j : Int)
  rw [e_rnd] at hi hj
  refine Ev.bind hi (Ev.bind hj ?_)
  exact two_l0 p q hp hq kk _ _ _ _ hkp hkq (wP_lt hc kk) (wQ_lt hc kk) (Math.e_lt i) (Math.e_lt j) hne _ 0 rfl (by omega)
end Go.Proofs.Ythjodjfjeamilaa.Pur
