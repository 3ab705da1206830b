/- What the printed leaf functions of parity come to, over columns of natural numbers. -/
import Derived.Test.YthjodjfjeamilaaBrA
set_option linter.unusedVariables false
set_option linter.unusedSimpArgs false
namespace Go.Proofs.Ythjodjfjeamilaa.Pur
open Go Go.RowKit Go.Proofs.YthjodjfjeamilaaW.PrintWords Go.Proofs.YthjodjfjeamilaaW.PrintLast Go.Proofs.YthjodjfjeamilaaW.PrintMore Go.Proofs.Ythjodjfjeamilaa.Bridge Go.Proofs.Ythjodjfjeamilaa.PA Go.Proofs.Ythjodjfjeamilaa.BrPA
/-- Bytes, columns, as the print has them. -/
def I (l : List Nat) : List Int := l.map fun n : Nat => (n : Int)
def II (cs : List (List Nat)) : List (List Int) := cs.map I
/-- All are bytes. -/
def Byt (l : List Nat) : Prop := ∀ x ∈ l, x < 256
def Bytt (cs : List (List Nat)) : Prop := ∀ c ∈ cs, Byt c
theorem I_len (l : List Nat) : (I l).length = l.length := by simp [I]
theorem II_len (cs : List (List Nat)) : (II cs).length = cs.length := by simp [II]
theorem rd_I (l : List Nat) (k : Nat) : rd (I l) (k : Int) = ((l.getD k 0 : Nat) : Int) := by
  unfold rd I
  rw [Int.toNat_natCast]
  simp only [List.getD_eq_getElem?_getD, List.getElem?_map]
  cases l[k]? <;> rfl
theorem rd_II (cs : List (List Nat)) (k : Nat) : rd_L1 (II cs) (k : Int) = I (cs.getD k []) := by
  unfold rd_L1 II
  rw [Int.toNat_natCast]
  simp only [List.getD_eq_getElem?_getD, List.getElem?_map]
  cases cs[k]? <;> rfl
theorem byt_get {l : List Nat} (h : Byt l) (k : Nat) : l.getD k 0 < 256 := by
  rw [List.getD_eq_getElem?_getD]
  cases hk : l[k]? with
  | none => decide
  | some x => exact h x (List.mem_of_getElem? hk)
theorem bytt_get {cs : List (List Nat)} (h : Bytt cs) (k : Nat) : Byt (cs.getD k []) := by
  rw [List.getD_eq_getElem?_getD]
  cases hk : cs[k]? with
  | none => intro x hx; cases hx
  | some x => exact h x (List.mem_of_getElem? hk)
theorem getD_far {l : List Nat} {k : Nat} (h : l.length ≤ k) : l.getD k 0 = 0 := by
  rw [List.getD_eq_getElem?_getD, List.getElem?_eq_none h]; rfl
/-- A column of n bytes, by its bytes. -/
def tab (n : Nat) (f : Nat → Nat) : List Nat := (List.range n).map f
theorem tab_len (n : Nat) (f : Nat → Nat) : (tab n f).length = n := by simp [tab]
theorem tab_get {n : Nat} {f : Nat → Nat} {k : Nat} (h : k < n) : (tab n f).getD k 0 = f k := by
  unfold tab
  rw [List.getD_eq_getElem?_getD, List.getElem?_map, List.getElem?_range h]; rfl
theorem tab_congr {n : Nat} {f g : Nat → Nat} (h : ∀ k, k < n → f k = g k) : tab n f = tab n g := by
  unfold tab
  exact List.map_congr_left fun k hk => h k (List.mem_range.1 hk)
theorem tab_inj {n : Nat} {f g : Nat → Nat} (h : tab n f = tab n g) (k : Nat) (hk : k < n) : f k = g k := by
  rw [← tab_get (n := n) (f := f) hk, h, tab_get hk]
theorem tab_self (l : List Nat) : tab l.length (fun k => l.getD k 0) = l := by
  apply List.ext_getElem
  · simp [tab]
  · intro i h1 h2
    simp [tab]
    rw [List.getElem?_eq_getElem h2]; rfl
theorem tab_byt {n : Nat} {f : Nat → Nat} (h : ∀ k, k < n → f k < 256) : Byt (tab n f) := by
  intro x hx
  unfold tab at hx
  rw [List.mem_map] at hx
  obtain ⟨k, hk, rfl⟩ := hx
  exact h k (List.mem_range.1 hk)
theorem I_inj {l m : List Nat} (h : I l = I m) : l = m := by
  unfold I at h
  exact List.map_inj_right (f := fun n : Nat => (n : Int)) (fun a b hab => Int.ofNat.inj hab) |>.1 h
theorem II_inj {l m : List (List Nat)} (h : II l = II m) : l = m := by
  unfold II at h
  exact List.map_inj_right (f := I) (fun a b hab => I_inj hab) |>.1 h
/-! ### add -/
theorem I_set (l : List Nat) (k x : Nat) : (I l).set k (x : Int) = I (l.set k x) := by unfold I; rw [List.map_set]
theorem set_tab (n : Nat) (f : Nat → Nat) (i x : Nat) : (tab n f).set i x = tab n (fun k => if k = i then x else f k) := by
  apply List.ext_getElem
  · simp [tab]
  · intro j h1 h2
    simp only [tab, List.getElem_set, List.getElem_map, List.getElem_range]
    by_cases h : i = j
    · rw [if_pos h, if_pos h.symm]
    · rw [if_neg h, if_neg (Ne.symm h)]
/-- p, with g times c added to its first i bytes. -/
def addf (f : Nat → Nat) (c : List Nat) (g i : Nat) (k : Nat) : Nat := if k < i then f k ^^^ Math.mul g (c.getD k 0) else f k
theorem add_l0 (n : Nat) (f : Nat → Nat) (c : List Nat) (g : Nat) (hf : ∀ k, k < n → f k < 256) (hc : Byt c) (hg : g < 256) (hl : c.length ≤ n) (hn : n < 4611686018427387904) :
    ∀ d i, c.length - i = d → i ≤ c.length → Ev (fun k => parity_add.l0 k (I (tab n (addf f c g i))) (g : Int) (I c) (c.length : Int) (i : Int)) (I (tab n (addf f c g c.length))) := by
  intro d
  induction d with
  | zero =>
    intro i hd hi
    obtain rfl : i = c.length := by omega
    refine Ev.step (f := fun k => _) (fun k => by rw [parity_add.l0]) ?_
    exact Ev.ite_neg (by omega) (Ev.now _)
  | succ d ih =>
    intro i hd hi
    refine Ev.step (f := fun k => _) (fun k => by rw [parity_add.l0]) ?_
    refine Ev.ite_pos (by omega) (Ev.ite_pos (by omega) (Ev.ite_pos (by rw [I_len]; omega) (Ev.ite_pos (by rw [I_len, tab_len]; omega) ?_)))
    have hb := byt_get hc i
    rw [rd_I, rd_I]
    refine Ev.bind (mul_ev g _ hg hb) ?_
    have hm := Math.mul_lt (b := c.getD i 0) hg
    have hfi : addf f c g i i = f i := by unfold addf; rw [if_neg (by omega)]
    rw [tab_get (by omega), hfi, xor_u8 _ _ (hf i (by omega)) hm, Int.toNat_natCast, I_set, set_tab, show (i : Int) + 1 = ((i + 1 : Nat) : Int) by omega, wrap64_nat _ (by omega)]
    have e : tab n (fun k => if k = i then f i ^^^ Math.mul g (c.getD i 0) else addf f c g i k) = tab n (addf f c g (i + 1)) := by
      apply tab_congr
      intro k hk
      unfold addf
      by_cases h : k = i
      · subst h; rw [if_pos rfl, if_pos (by omega)]
      · rw [if_neg h]
        by_cases h2 : k < i
        · rw [if_pos h2, if_pos (by omega)]
        · rw [if_neg h2, if_neg (by omega)]
    rw [e]
    exact ih (i + 1) (by omega) (by omega)
theorem add_ev (n : Nat) (f : Nat → Nat) (c : List Nat) (g : Nat) (hf : ∀ k, k < n → f k < 256) (hc : Byt c) (hg : g < 256) (hl : c.length ≤ n) (hn : n < 4611686018427387904) :
    Ev (fun k => parity_add.f k (I (tab n f)) (I c) (g : Int)) (I (tab n (fun k => f k ^^^ Math.mul g (c.getD k 0)))) := by
  have h := add_l0 n f c g hf hc hg hl hn c.length 0 (by omega) (by omega)
  have e0 : tab n (addf f c g 0) = tab n f := tab_congr fun k hk => by unfold addf; rw [if_neg (by omega)]
  have e1 : tab n (addf f c g c.length) = tab n (fun k => f k ^^^ Math.mul g (c.getD k 0)) := tab_congr fun k hk => by
    unfold addf
    by_cases h : k < c.length
    · rw [if_pos h]
    · rw [if_neg h, getD_far (by omega), Math.mul_zero, Nat.xor_zero]
  rw [e0, e1] at h
  unfold parity_add.f
  rw [I_len]
  exact h
/-! ### sums -/
/-- The sum of the first i columns, each times its g. -/
def ws (g : Nat → Nat) (cs : List (List Nat)) : Nat → Nat → Nat
  | 0, _ => 0
  | i + 1, k => ws g cs i k ^^^ Math.mul (g i) ((cs.getD i []).getD k 0)
def one (_ : Nat) : Nat := 1
def wP (cs : List (List Nat)) (k : Nat) : Nat := ws one cs cs.length k
def wQ (cs : List (List Nat)) (k : Nat) : Nat := ws Math.e cs cs.length k
theorem ws_lt (g : Nat → Nat) (cs : List (List Nat)) (hg : ∀ i, g i < 256) (hc : Bytt cs) : ∀ i k, ws g cs i k < 256
  | 0, _ => (by decide : (0 : Nat) < 256)
  | i + 1, k => Math.xor_lt (ws_lt g cs hg hc i k) (Math.mul_lt (hg i))
theorem one_lt (i : Nat) : one i < 256 := (by decide : (1 : Nat) < 256)
theorem wP_lt {cs : List (List Nat)} (hc : Bytt cs) (k : Nat) : wP cs k < 256 := ws_lt one cs one_lt hc _ k
theorem wQ_lt {cs : List (List Nat)} (hc : Bytt cs) (k : Nat) : wQ cs k < 256 := ws_lt Math.e cs Math.e_lt hc _ k
theorem e_rnd (i : Nat) : Math.e (rnd (i : Int)) = Math.e i := by
  unfold rnd
  rw [show ((i : Int) % 255).toNat = i % 255 by omega, ← Math.e_mod]
theorem sums_l0 (n : Nat) (cs : List (List Nat)) (hc : Bytt cs) (hl : ∀ c ∈ cs, c.length ≤ n) (hn : n < 4611686018427387904) (hcn : cs.length < 4611686018427387904) :
    ∀ d i, cs.length - i = d → i ≤ cs.length → Ev (fun k => parity_sums.l0 k (I (tab n (ws one cs i))) (I (tab n (ws Math.e cs i))) (II cs) (cs.length : Int) (i : Int)) (I (tab n (wP cs)), I (tab n (wQ cs))) := by
  intro d
  induction d with
  | zero =>
    intro i hd hi
    obtain rfl : i = cs.length := by omega
    refine Ev.step (f := fun k => _) (fun k => by rw [parity_sums.l0]) ?_
    exact Ev.ite_neg (by omega) (Ev.now _)
  | succ d ih =>
    intro i hd hi
    refine Ev.step (f := fun k => _) (fun k => by rw [parity_sums.l0]) ?_
    refine Ev.ite_pos (by omega) (Ev.ite_pos (by omega) (Ev.ite_pos (by rw [II_len]; omega) ?_))
    rw [rd_II]
    have hci : (cs.getD i []).length ≤ n := by
      rw [List.getD_eq_getElem?_getD, List.getElem?_eq_getElem (by omega)]
      exact hl _ (List.getElem_mem _)
    have hx := exp_ev (i : Int)
    rw [e_rnd] at hx
    refine Ev.bind (add_ev n (ws one cs i) _ 1 (fun k _ => ws_lt one cs one_lt hc i k) (bytt_get hc i) (by decide) hci hn) (Ev.bind hx (Ev.bind (add_ev n (ws Math.e cs i) _ _ (fun k _ => ws_lt Math.e cs Math.e_lt hc i k) (bytt_get hc i) (Math.e_lt i) hci hn) ?_))
    rw [show (i : Int) + 1 = ((i + 1 : Nat) : Int) by omega, wrap64_nat _ (by omega)]
    exact ih (i + 1) (by omega) (by omega)
theorem tab_zero (n : Nat) : I (tab n fun _ => 0) = List.replicate n 0 := by
  apply List.ext_getElem
  · simp [I, tab]
  · intro i h1 h2; simp [I, tab]
theorem sums_ev (n : Nat) (cs : List (List Nat)) (hc : Bytt cs) (hl : ∀ c ∈ cs, c.length ≤ n) (hn : n ≤ 4096) (hcn : cs.length < 4611686018427387904) :
    Ev (fun k => parity_sums.f k (II cs) (n : Int)) (I (tab n (wP cs)), I (tab n (wQ cs))) := by
  have h := sums_l0 n cs hc hl (by omega) hcn cs.length 0 (by omega) (by omega)
  unfold parity_sums.f
  refine Ev.ite_pos (by omega) (Ev.ite_pos (by omega) ?_)
  have e0 : I (tab n (ws one cs 0)) = List.replicate n 0 := tab_zero n
  have e1 : I (tab n (ws Math.e cs 0)) = List.replicate n 0 := tab_zero n
  rw [e0, e1] at h
  rw [Int.toNat_natCast, II_len]
  exact h
/-! ### Width -/
def widR : List Nat → Nat → Nat → Nat × Nat
  | [], n, l => (n, l)
  | k :: ls, n, l => if k = 0 then widR ls n (l + 1) else if n ≠ 0 ∧ n ≠ k ∨ 4096 < k then (0, 0) else widR ls k l
def widP : List Nat → Nat → Nat → Nat × Nat
  | [], n, l => (n, l)
  | k :: ls, n, l => if k = 0 then widP ls n (l + 1) else if n = 0 then widP ls k l else if n ≠ k then (0, 0) else widP ls n l
def lens (cs : List (List Nat)) : List Nat := cs.map List.length
theorem width_l0 (cs : List (List Nat)) (hcl : ∀ c ∈ cs, c.length < 4611686018427387904) (hn : cs.length < 4611686018427387904) :
    ∀ (d i n l : Nat), cs.length - i = d → i ≤ cs.length → l ≤ i → n < 4611686018427387904 → Ev (fun k => ravelinref05_Width.l0 k (II cs) (n : Int) (l : Int) (i : Int)) (((widR (lens (cs.drop i)) n l).1 : Int), ((widR (lens (cs.drop i)) n l).2 : Int)) := by
  intro d
  induction d with
  | zero =>
    intro i n l hd hi hli hnb
    obtain rfl : i = cs.length := by omega
    rw [List.drop_length]
    refine Ev.step (f := fun k => _) (fun k => by rw [ravelinref05_Width.l0]) ?_
    exact Ev.ite_neg (by rw [II_len]; omega) (Ev.now _)
  | succ d ih =>
    intro i n l hd hi hli hnb
    have hlt : i < cs.length := by omega
    refine Ev.step (f := fun k => _) (fun k => by rw [ravelinref05_Width.l0]) ?_
    refine Ev.ite_pos (by rw [II_len]; omega) (Ev.ite_pos (by omega) ?_)
    rw [rd_II, I_len, List.drop_eq_getElem_cons hlt]
    have hci : cs.getD i [] = cs[i] := by rw [List.getD_eq_getElem?_getD, List.getElem?_eq_getElem hlt]; rfl
    rw [hci]
    have hcb := hcl _ (List.getElem_mem hlt)
    have e1 : wrap64 ((i : Int) + 1) = ((i + 1 : Nat) : Int) := by rw [show (i : Int) + 1 = ((i + 1 : Nat) : Int) by omega, wrap64_nat _ (by omega)]
    have e2 : wrap64 ((l : Int) + 1) = ((l + 1 : Nat) : Int) := by rw [show (l : Int) + 1 = ((l + 1 : Nat) : Int) by omega, wrap64_nat _ (by omega)]
    rw [e1, e2]
    unfold lens
    rw [List.map_cons]
    unfold widR
    generalize hk : cs[i].length = k at *
    by_cases h0 : k = 0
    · rw [if_pos h0]
      exact Ev.ite_pos (by omega) (ih (i + 1) n (l + 1) (by omega) (by omega) (by omega) hnb)
    · rw [if_neg h0]
      refine Ev.ite_neg (by omega) ?_
      by_cases hn0 : n = 0
      · refine Ev.ite_pos (by omega) ?_
        by_cases h4 : 4096 < k
        · rw [if_pos (.inr h4)]
          exact Ev.ite_pos (by omega) (Ev.now _)
        · rw [if_neg (by omega)]
          exact Ev.ite_neg (by omega) (ih (i + 1) k l (by omega) (by omega) (by omega) hcb)
      · refine Ev.ite_neg (by omega) ?_
        by_cases hnk : n = k
        · refine Ev.ite_pos (by omega) ?_
          by_cases h4 : 4096 < k
          · rw [if_pos (.inr h4)]
            exact Ev.ite_pos (by omega) (Ev.now _)
          · rw [if_neg (by omega)]
            exact Ev.ite_neg (by omega) (ih (i + 1) k l (by omega) (by omega) (by omega) hcb)
        · rw [if_pos (.inl ⟨hn0, hnk⟩)]
          exact Ev.ite_neg (by omega) (Ev.now _)
theorem width_ev (cs : List (List Nat)) (hcl : ∀ c ∈ cs, c.length < 4611686018427387904) (hn : cs.length < 4611686018427387904) :
    Ev (fun k => ravelinref05_Width.f k (II cs)) (((widR (lens cs) 0 0).1 : Int), ((widR (lens cs) 0 0).2 : Int)) :=
  width_l0 cs hcl hn cs.length 0 0 0 (by omega) (by omega) (by omega) (by omega)
/-- Columns that are sound: those that are not lost have one length. -/
structure Snd (ls : List Nat) (n l : Nat) : Prop where
  pos : 1 ≤ n
  lim : n ≤ 4096
  mem : n ∈ ls
  all : ∀ k ∈ ls, k = 0 ∨ k = n
  lost : l = ls.count 0
theorem widR_snd (n : Nat) (hp : 1 ≤ n) (hl : n ≤ 4096) : ∀ (ls : List Nat) (m l : Nat), (m = 0 ∨ m = n) → (∀ k ∈ ls, k = 0 ∨ k = n) → (m = n ∨ n ∈ ls) → widR ls m l = (n, l + ls.count 0)
  | [], m, l, hm, ha, hx => by rcases hx with rfl | h; · simp [widR]
                               · cases h
  | k :: ls, m, l, hm, ha, hx => by
    unfold widR
    have hk := ha k List.mem_cons_self
    have hr : ∀ k ∈ ls, k = 0 ∨ k = n := fun x hx => ha x (List.mem_cons_of_mem _ hx)
    by_cases h0 : k = 0
    · subst h0
      rw [if_pos rfl, widR_snd n hp hl ls m (l + 1) hm hr (by rcases hx with h | h; exact .inl h; rcases List.mem_cons.1 h with h | h; omega; exact .inr h)]
      simp only [List.count_cons_self]
      congr 1
      omega
    · obtain rfl : k = n := by omega
      rw [if_neg h0, if_neg (by omega), widR_snd k hp hl ls k l (.inr rfl) hr (.inl rfl), List.count_cons_of_ne (by omega)]
theorem widP_snd (n : Nat) (hp : 1 ≤ n) : ∀ (ls : List Nat) (m l : Nat), (m = 0 ∨ m = n) → (∀ k ∈ ls, k = 0 ∨ k = n) → (m = n ∨ n ∈ ls) → widP ls m l = (n, l + ls.count 0)
  | [], m, l, hm, ha, hx => by rcases hx with rfl | h; · simp [widP]
                               · cases h
  | k :: ls, m, l, hm, ha, hx => by
    unfold widP
    have hk := ha k List.mem_cons_self
    have hr : ∀ k ∈ ls, k = 0 ∨ k = n := fun x hx => ha x (List.mem_cons_of_mem _ hx)
    by_cases h0 : k = 0
    · subst h0
      rw [if_pos rfl, widP_snd n hp ls m (l + 1) hm hr (by rcases hx with h | h; exact .inl h; rcases List.mem_cons.1 h with h | h; omega; exact .inr h)]
      simp only [List.count_cons_self]
      congr 1
      omega
    · obtain rfl : k = n := by omega
      rw [if_neg h0]
      rcases hm with rfl | rfl
      · rw [if_pos rfl, widP_snd k hp ls k l (.inr rfl) hr (.inl rfl), List.count_cons_of_ne (by omega)]
      · rw [if_neg (by omega), if_neg (by omega), widP_snd m hp ls m l (.inr rfl) hr (.inl rfl), List.count_cons_of_ne (by omega)]
theorem all_of {p : Nat → Prop} {k : Nat} {ls : List Nat} (hk : p k) (h : ∀ x ∈ ls, p x) : ∀ x ∈ k :: ls, p x := by
  intro x hx
  rcases List.mem_cons.1 hx with rfl | hx
  · exact hk
  · exact h x hx
theorem widR_uns : ∀ (ls : List Nat) (m l : Nat), m ≤ 4096 → (widR ls m l).1 ≠ 0 → (∀ k ∈ ls, k = 0 ∨ k = (widR ls m l).1) ∧ (widR ls m l).1 ≤ 4096 ∧ ((widR ls m l).1 = m ∨ m = 0 ∧ (widR ls m l).1 ∈ ls)
  | [], m, l, hm, h => ⟨(fun k hk => by cases hk), by simpa [widR] using hm, .inl rfl⟩
  | k :: ls, m, l, hm, h => by
    unfold widR at h ⊢
    by_cases h0 : k = 0
    · rw [if_pos h0] at h ⊢
      obtain ⟨h1, h2, h3⟩ := widR_uns ls m (l + 1) hm h
      exact ⟨all_of (.inl h0) h1, h2, h3.imp id (fun ⟨a, b⟩ => ⟨a, List.mem_cons_of_mem _ b⟩)⟩
    · rw [if_neg h0] at h ⊢
      by_cases hc : m ≠ 0 ∧ m ≠ k ∨ 4096 < k
      · rw [if_pos hc] at h; exact absurd rfl h
      · rw [if_neg hc] at h ⊢
        obtain ⟨h1, h2, h3⟩ := widR_uns ls k l (by omega) h
        have e : (widR ls k l).1 = k := by rcases h3 with h3 | h3; exact h3; omega
        refine ⟨all_of (.inr e.symm) h1, h2, ?_⟩
        rw [e]
        by_cases hm0 : m = 0
        · exact .inr ⟨hm0, List.mem_cons_self⟩
        · exact .inl (by omega)
theorem widP_uns : ∀ (ls : List Nat) (m l : Nat), (widP ls m l).1 ≠ 0 → (∀ k ∈ ls, k = 0 ∨ k = (widP ls m l).1) ∧ ((widP ls m l).1 = m ∨ m = 0 ∧ (widP ls m l).1 ∈ ls)
  | [], m, l, h => ⟨(fun k hk => by cases hk), .inl rfl⟩
  | k :: ls, m, l, h => by
    unfold widP at h ⊢
    by_cases h0 : k = 0
    · rw [if_pos h0] at h ⊢
      obtain ⟨h1, h3⟩ := widP_uns ls m (l + 1) h
      exact ⟨all_of (.inl h0) h1, h3.imp id (fun ⟨a, b⟩ => ⟨a, List.mem_cons_of_mem _ b⟩)⟩
    · rw [if_neg h0] at h ⊢
      by_cases hm0 : m = 0
      · rw [if_pos hm0] at h ⊢
        obtain ⟨h1, h3⟩ := widP_uns ls k l h
        have e : (widP ls k l).1 = k := by rcases h3 with h3 | h3; exact h3; omega
        exact ⟨all_of (.inr e.symm) h1, .inr ⟨hm0, by rw [e]; exact List.mem_cons_self⟩⟩
      · rw [if_neg hm0] at h ⊢
        by_cases hc : m ≠ k
        · rw [if_pos hc] at h; exact absurd rfl h
        · rw [if_neg hc] at h ⊢
          obtain ⟨h1, h3⟩ := widP_uns ls m l h
          have e : (widP ls m l).1 = m := by rcases h3 with h3 | h3; exact h3; omega
          exact ⟨all_of (.inr (by omega)) h1, .inl e⟩
/-- What the program's width says of lengths. -/
def wid (ls : List Nat) : Nat × Nat := if 4096 < (widP ls 0 0).1 then (0, 0) else widP ls 0 0
theorem wid_cases (ls : List Nat) : (∃ n l, Snd ls n l ∧ widR ls 0 0 = (n, l) ∧ wid ls = (n, l)) ∨ ((∀ n l, ¬ Snd ls n l) ∧ (widR ls 0 0).1 = 0 ∧ (wid ls).1 = 0) := by
  by_cases h : ∃ n l, Snd ls n l
  · obtain ⟨n, l, hs⟩ := h
    refine .inl ⟨n, l, hs, ?_, ?_⟩
    · rw [widR_snd n hs.pos hs.lim ls 0 0 (.inl rfl) hs.all (.inr hs.mem), hs.lost, Nat.zero_add]
    · unfold wid
      rw [widP_snd n hs.pos ls 0 0 (.inl rfl) hs.all (.inr hs.mem), hs.lost, Nat.zero_add]
      have := hs.lim
      rw [if_neg (by simp only; omega)]
  · refine .inr ⟨fun n l hs => h ⟨n, l, hs⟩, ?_, ?_⟩
    · apply Classical.byContradiction
      intro h0
      obtain ⟨h1, h2, h3⟩ := widR_uns ls 0 0 (by omega) h0
      exact h ⟨_, _, by omega, h2, h3.elim (fun h3 => absurd h3 h0) (fun h3 => h3.2), h1, rfl⟩
    · apply Classical.byContradiction
      intro h0
      unfold wid at h0
      by_cases h4 : 4096 < (widP ls 0 0).1
      · rw [if_pos h4] at h0; exact h0 rfl
      · rw [if_neg h4] at h0
        obtain ⟨h1, h3⟩ := widP_uns ls 0 0 h0
        exact h ⟨_, _, by omega, by omega, h3.elim (fun h3 => absurd h3 h0) (fun h3 => h3.2), h1, rfl⟩
end Go.Proofs.Ythjodjfjeamilaa.Pur
