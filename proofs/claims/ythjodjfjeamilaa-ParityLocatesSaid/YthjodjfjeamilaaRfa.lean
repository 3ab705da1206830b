/- For the document's Recover: its callees' contracts, a byte laid behind a column, and the state of its loop. -/
import Derived.Test.YthjodjfjeamilaaSmA
import Derived.Test.YthjodjfjeamilaaRcvA
set_option linter.unusedVariables false
set_option linter.unusedSimpArgs false
namespace Go.Proofs.Ythjodjfjeamilaa.Wd
open Go Go.RowKit Go.Proofs.YthjodjfjeamilaaW.PrintWords Go.Proofs.YthjodjfjeamilaaW.PrintLast Go.Proofs.YthjodjfjeamilaaW.PrintMore Go.Proofs.Ythjodjfjeamilaa.Bridge Go.Proofs.Ythjodjfjeamilaa.PA Go.Proofs.Ythjodjfjeamilaa.PB Go.Proofs.Ythjodjfjeamilaa.BrPA Go.Proofs.Ythjodjfjeamilaa.Pur
theorem ahead_any (w : World) (A0 : Option Addr) (c0 : Nat) (cs : List (List Nat)) (A1 : Option Addr) (c1 : Nat) (p : List Nat) (A2 : Option Addr) (c2 : Nat) (q : List Nat) (h0 : Kd.C (Kd.slice 5 (Kd.int .u8)) w A0 (II cs).length (II cs)) (k0 : (II cs).length ≤ c0) (h1 : RdB w A1 p) (k1 : (I p).length ≤ c1) (h2 : RdB w A2 q) (k2 : (I q).length ≤ c2) (hn : cs.length + 2 < 5864062014805) :
    Calls Try.prog 34 #[.slice A0 (II cs).length c0, .slice A1 (I p).length c1, .slice A2 (I q).length c2] w fun e w' => ∃ A c, e = .returned (.slice A (II (cs ++ [p, q])).length c) ∧ (II (cs ++ [p, q])).length ≤ c ∧ Kd.C (Kd.slice 5 (Kd.int .u8)) w' A (II (cs ++ [p, q])).length (II (cs ++ [p, q])) ∧ Below w.heap.size w w' := by
  have hf : ravelinref05_ahead.f (II cs) (I p) (I q) = some (II (cs ++ [p, q])) := by
    unfold ravelinref05_ahead.f
    simp only [Option.bind_some, List.nil_append, List.length_nil, Nat.zero_add]
    rw [if_pos (by rw [II_len]; omega), if_pos (by rw [II_len]; omega), if_pos (by rw [List.length_append, II_len]; simp; omega)]
    congr 1
    unfold II
    simp
  refine (ravelinref05_ahead.calls (fun k => k < w.heap.size) A0 c0 (II cs) (fun k => k < w.heap.size) A1 c1 (I p) (fun k => k < w.heap.size) A2 c2 (I q) _ w (Kd.V_mk k0 (Kd.C_F (Kd.heap_slice 5 (Kd.heap_int .u8)) h0)) (Kd.V_mk k1 (Kd.C_F (Kd.heap_int .u8) h1)) (Kd.V_mk k2 (Kd.C_F (Kd.heap_int .u8) h2)) hf).mono ?_
  rintro e w' ⟨v, he, hN, hb⟩
  obtain ⟨A, c, rfl, hc, hC⟩ := Kd.N_reads hN
  exact ⟨A, c, he, hc, hC, hb⟩
theorem rwidth_any (w : World) (A0 : Option Addr) (c0 : Nat) (ds : List (List Nat)) (h0 : Kd.C (Kd.slice 5 (Kd.int .u8)) w A0 (II ds).length (II ds)) (k0 : (II ds).length ≤ c0) (hcl : ∀ c ∈ ds, c.length < 4611686018427387904) (hn : ds.length < 4611686018427387904) :
    Calls Try.prog 24 #[.slice A0 (II ds).length c0] w fun e w' => e = .returned (.tuple #[.int .i64 ((widR (lens ds) 0 0).1 : Int), .int .i64 ((widR (lens ds) 0 0).2 : Int)]) ∧ Below w.heap.size w w' := by
  obtain ⟨k, hk⟩ := (width_ev ds hcl hn).rounds
  refine (ravelinref05_Width.calls k A0 c0 (II ds) _ _ w h0 k0 hk).mono ?_
  rintro e w' ⟨he, hd⟩
  exact ⟨he, hd.below⟩
theorem fits_any (w : World) (A0 : Option Addr) (c0 : Nat) (cs : List (List Nat)) (h0 : Kd.C (Kd.slice 5 (Kd.int .u8)) w A0 (II cs).length (II cs)) (k0 : (II cs).length ≤ c0) (b : Bool) (hb : b = decide (1 ≤ cs.length ∧ cs.length ≤ 30)) :
    Calls Try.prog 25 #[.slice A0 (II cs).length c0] w fun e w' => e = .returned (.bool b) ∧ Below w.heap.size w w' := by
  subst hb
  refine (ravelinref05_fits.calls A0 c0 (II cs) _ w h0 k0 (fits_f cs)).mono ?_
  rintro e w' ⟨he, hd⟩
  exact ⟨he, hd.below⟩
theorem one_any (w : World) (A0 : Option Addr) (c0 : Nat) (cs : List (List Nat)) (A1 : Option Addr) (c1 : Nat) (p : List Nat) (A2 : Option Addr) (c2 : Nat) (q : List Nat) (h0 : Kd.C (Kd.slice 5 (Kd.int .u8)) w A0 (II cs).length (II cs)) (k0 : (II cs).length ≤ c0) (h1 : RdB w A1 p) (k1 : (I p).length ≤ c1) (h2 : RdB w A2 q) (k2 : (I q).length ≤ c2) (i kk x : Nat) (hx : Ev (fun k => ravelinref05_one.f k (II cs) (I p) (I q) (i : Int) (kk : Int)) (x : Int)) :
    Calls Try.prog 37 #[.slice A0 (II cs).length c0, .slice A1 (I p).length c1, .slice A2 (I q).length c2, .int .i64 (i : Int), .int .i64 (kk : Int)] w fun e w' => e = .returned (.int .u8 (x : Int)) ∧ Below w.heap.size w w' := by
  obtain ⟨k, hk⟩ := hx.rounds
  refine (ravelinref05_one.calls k A0 c0 (II cs) A1 c1 (I p) A2 c2 (I q) _ _ _ w h0 k0 h1 k1 h2 k2 hk).mono ?_
  rintro e w' ⟨he, hd⟩
  exact ⟨he, hd.below⟩
theorem two_any (w : World) (A0 : Option Addr) (c0 : Nat) (cs : List (List Nat)) (A1 : Option Addr) (c1 : Nat) (p : List Nat) (A2 : Option Addr) (c2 : Nat) (q : List Nat) (h0 : Kd.C (Kd.slice 5 (Kd.int .u8)) w A0 (II cs).length (II cs)) (k0 : (II cs).length ≤ c0) (h1 : RdB w A1 p) (k1 : (I p).length ≤ c1) (h2 : RdB w A2 q) (k2 : (I q).length ≤ c2) (i j kk x y : Nat) (hx : Ev (fun k => ravelinref05_two.f k (II cs) (I p) (I q) (i : Int) (j : Int) (kk : Int)) ((x : Int), (y : Int))) :
    Calls Try.prog 38 #[.slice A0 (II cs).length c0, .slice A1 (I p).length c1, .slice A2 (I q).length c2, .int .i64 (i : Int), .int .i64 (j : Int), .int .i64 (kk : Int)] w fun e w' => e = .returned (.tuple #[.int .u8 (x : Int), .int .u8 (y : Int)]) ∧ Below w.heap.size w w' := by
  obtain ⟨k, hk⟩ := hx.rounds
  refine (ravelinref05_two.calls k A0 c0 (II cs) A1 c1 (I p) A2 c2 (I q) _ _ _ _ _ w h0 k0 h1 k1 h2 k2 hk).mono ?_
  rintro e w' ⟨he, hd⟩
  exact ⟨he, hd.below⟩
theorem rencode_any (w : World) (A : Option Addr) (c : Nat) (cs : List (List Nat)) (p q : List Nat) (x : Int) (hr : Kd.C (Kd.slice 5 (Kd.int .u8)) w A (II cs).length (II cs)) (hc : (II cs).length ≤ c) (h : Ev (fun k => ravelinref05_Encode.f k (II cs)) (I p, I q, x)) :
    Calls Try.prog 12 #[.slice A (II cs).length c] w fun e w' => ∃ v0 v1, e = .returned (.tuple #[v0, v1, .int .i64 x]) ∧ Own w' w.heap.size v0 p ∧ Own w' w.heap.size v1 q ∧ (∀ k, v0.ownBlock = some k → v1.ownBlock ≠ some k) ∧ Below w.heap.size w w' := by
  obtain ⟨k, hk⟩ := h.rounds
  refine (ravelinref05_Encode.calls k A c (II cs) _ _ _ w hr hc hk).mono ?_
  rintro e w' ⟨v0, v1, he, h1, h2, h3⟩
  exact ⟨v0, v1, he, own_of h1, own_of h2, fun k hk h => h1.1 k hk h.symm, h3⟩
/-- Bytes copied behind an empty row of one's own. -/
theorem copy_run (W : World) (A : Option Addr) (c : Nat) (l : List Nat) (h : RdB W A l) (hl : l.length ≤ 4096) :
    ∃ v' w1, (Builtin.append_ #[24, 24] 24 #[.slice (some ⟨W.heap.size, 0, none⟩) 0 0, .slice A (I l).length c]).run Try.prog (W.alloc (.cells #[] 5)) = .ok v' w1 ∧ Own w1 W.heap.size v' l ∧ Below W.heap.size W w1 := by
  have B1 : Below W.heap.size W (W.alloc (.cells #[] 5)) := balloc W _
  have O1 : (W.alloc (.cells #[] 5)).ownsRow W.heap.size 5 1 (.slice (some ⟨W.heap.size, 0, none⟩) 0 0) 0 [] := World.ownsRow_lit W #[] 0 (Nat.le_refl _) (by unfold maxLen; omega) rfl
  obtain ⟨i0, hi0, hz0, hz1, hz2⟩ := info_parts info5b
  cases A with
  | none =>
    obtain rfl : l = [] := by
      rcases Nat.eq_zero_or_pos l.length with h0 | h0
      · exact List.eq_nil_of_length_eq_zero h0
      · obtain ⟨a, hA, _⟩ := h.2.2 (by rw [I_len]; exact h0)
        cases hA
    exact ⟨_, _, run_append_none_b W.heap.size 24 24 5 i0 1 c Try.underlying24 hi0 _ 0 [] O1, O1, B1⟩
  | some a =>
    have hr := Kd.reads_of_C (d := (0 : Int)) (h.below B1)
    obtain ⟨v', w', hrun, h3, h4, _, _⟩ := run_append_own_at (P := Try.prog) (W.alloc (.cells #[] 5)) W.heap.size 24 24 5 i0 (.int .u8 0) 1 1 Try.underlying24 hi0 hz0 hz1 hz2 rfl (by decide) _ 0 [] O1 a (I l).length c (u8n l) (by rw [u8n_len, I_len, Nat.mul_one]) (fun j u hj => by
      have hjl : j < (I l).length := by have := (List.getElem?_eq_some_iff.1 hj).1; rw [u8n_len] at this; rw [I_len]; exact this
      obtain ⟨a', hA, hx⟩ := hr.2.2 (by omega)
      injection hA with hA
      subst hA
      rw [hx j hjl]
      unfold u8n at hj
      rw [encs_get (d := 0) _ _ hjl] at hj
      exact hj) (fun y hy => by unfold u8n encs at hy; obtain ⟨z, _, rfl⟩ := List.mem_map.1 hy; rfl) (by rw [I_len]; unfold maxLen; omega) (by rw [I_len]; omega) (by simp)
    rw [Nat.zero_add, List.nil_append, I_len] at h3
    exact ⟨v', w', hrun, h3, B1.grown h4 (by simp) (fun q hq => by simp [Value.ownBlock] at hq; omega)⟩
/-- A byte more, and where the row lies then. -/
theorem own_push2 {W : World} {base : Nat} {v : Value} {l : List Nat} (h : Own W base v l) (x : Nat) (hb : base ≤ W.heap.size) (hl : l.length ≤ 5000) :
    ∃ v' w1, (Builtin.append_ #[24, 24] 24 #[v, .slice (some ⟨W.heap.size, 0, none⟩) 1 1]).run Try.prog (W.alloc (.cells #[.int .u8 (x : Int)] 5)) = .ok v' w1 ∧ Own w1 base v' (l ++ [x]) ∧ (W.alloc (.cells #[.int .u8 (x : Int)] 5)).grownBy w1 v.ownBlock ∧ (v'.ownBlock = v.ownBlock ∨ v'.ownBlock = some (W.heap.size + 1)) := by
  obtain ⟨i0, hi0, hz0, hz1, hz2⟩ := info_parts info5b
  have B1 := balloc W (.cells #[.int .u8 (x : Int)] 5)
  obtain ⟨v', w1, hr, h3, h4, _, hat⟩ := run_append_own_at (P := Try.prog) (W.alloc (.cells #[.int .u8 (x : Int)] 5)) base 24 24 5 i0 (.int .u8 0) 1 1 Try.underlying24 hi0 hz0 hz1 hz2 rfl (by decide) v l.length (u8n l) (own_belowB h B1) ⟨W.heap.size, 0, none⟩ 1 1 [.int .u8 (x : Int)] rfl (fun j u hj => by
    have hj0 : j = 0 := by have := (List.getElem?_eq_some_iff.1 hj).1; simp at this; exact this
    subst hj0
    simp only [List.getElem?_cons_zero, Option.some.injEq] at hj
    subst hj
    rw [addr_add, cell_of_heap (heap_alloc_new W _)]
    rfl) (fun u hu => by simp at hu; subst hu; rfl) (by unfold maxLen; omega) (by omega) (by simp; omega)
  refine ⟨v', w1, hr, ?_, h4, by rw [World.alloc] at hat; simpa using hat⟩
  unfold Own
  have e : u8n (l ++ [x]) = u8n l ++ [.int .u8 (x : Int)] := by unfold u8n I; rw [List.map_append]; simp [encs]
  rw [List.length_append, e]
  exact h3
/-- The loop of the document's Recover: the columns, of which those that were lost grow; which they are. -/
structure Rn (w W : World) (ra m ca : Nat) (ys : List Value) (cs : List (List Nat)) (vg : Value) (G : List Nat) : Prop where
  c : Cols W w.heap.size (.slice (some ⟨ra, 0, none⟩) m ca) ys cs
  g : OwnI W w.heap.size vg G
  b : Below w.heap.size w W
theorem Rn.below {w W W' : World} {ra m ca : Nat} {ys : List Value} {cs : List (List Nat)} {vg : Value} {G : List Nat} (h : Rn w W ra m ca ys cs vg G) (hb : Below W.heap.size W W') : Rn w W' ra m ca ys cs vg G :=
  ⟨h.c.below hb, own_below h.g hb, h.b.trans (hb.mono h.b.size)⟩
/-- Behind the append, ahead of the store. -/
structure RnMid (w w1 : World) (ra m ca : Nat) (ys : List Value) (cs : List (List Nat)) (vg : Value) (G : List Nat) (g : Nat) (y' : Value) (c' : List Nat) : Prop where
  cell : ∃ u, w1.cell? ⟨ra, g, none⟩ = some u
  frozen : w1.frozen? ⟨ra, g, none⟩ = false
  gl : ∀ (rg cg j z : Nat), vg = .slice (some ⟨rg, 0, none⟩) G.length cg → G[j]? = some z → w1.cell? ⟨rg, j, none⟩ = some (.int .i64 (z : Int))
  gs : ∀ (rg cg j z : Nat), vg = .slice (some ⟨rg, 0, none⟩) G.length cg → G[j]? = some z → (w1.setCell ⟨ra, g, none⟩ y').cell? ⟨rg, j, none⟩ = some (.int .i64 (z : Int))
  rn : Rn w (w1.setCell ⟨ra, g, none⟩ y') ra m ca (ys.set g y') (cs.set g c') vg G
theorem ints_get {G : List Nat} {j z : Nat} (h : G[j]? = some z) : (ints G)[j]? = some (.int .i64 (z : Int)) := by unfold ints; rw [List.getElem?_map, h]; rfl
theorem Rn.gcell {w W : World} {ra m ca : Nat} {ys : List Value} {cs : List (List Nat)} {vg : Value} {G : List Nat} (h : Rn w W ra m ca ys cs vg G) {rg cg j z : Nat} (hv : vg = .slice (some ⟨rg, 0, none⟩) G.length cg) (hj : G[j]? = some z) : W.cell? ⟨rg, j, none⟩ = some (.int .i64 (z : Int)) := by
  have hl := (List.getElem?_eq_some_iff.1 hj).1
  have hg := h.g
  subst hv
  exact (own_cell hg (j := j) (by omega)).trans (ints_get hj)
theorem Rn.col {w W : World} {ra m ca : Nat} {ys : List Value} {cs : List (List Nat)} {vg : Value} {G : List Nat} (h : Rn w W ra m ca ys cs vg G) {g : Nat} (hg : g < cs.length) : ∃ y, ys[g]? = some y ∧ W.cell? ⟨ra, g, none⟩ = some y ∧ Own W w.heap.size y (cs.getD g []) := by
  have hy : ys[g]? = some (ys[g]'(by rw [h.c.len]; exact hg)) := List.getElem?_eq_getElem _
  refine ⟨_, hy, (own_cell h.c.own (j := g) (by omega)).trans hy, h.c.el g _ _ hy ?_⟩
  rw [List.getElem?_eq_getElem hg, getD_of hg]
/-- A byte more of one column. -/
theorem Rn.push {w W : World} {ra m ca : Nat} {ys : List Value} {cs : List (List Nat)} {vg : Value} {G : List Nat} (h : Rn w W ra m ca ys cs vg G) {g : Nat} (hg : g < cs.length) {y : Value} (hy : ys[g]? = some y) (x : Nat) (hl : (cs.getD g []).length ≤ 5000) :
    ∃ y' w1, (Builtin.append_ #[24, 24] 24 #[y, .slice (some ⟨W.heap.size, 0, none⟩) 1 1]).run Try.prog (W.alloc (.cells #[.int .u8 (x : Int)] 5)) = .ok y' w1 ∧ RnMid w w1 ra m ca ys cs vg G g y' (cs.getD g [] ++ [x]) := by
  have hc : cs[g]? = some (cs.getD g []) := by rw [List.getElem?_eq_getElem hg, getD_of hg]
  have ho := h.c.el g y _ hy hc
  have B1 := balloc W (.cells #[.int .u8 (x : Int)] 5)
  obtain ⟨y', w1, hr, ho', hgr, hat⟩ := own_push2 ho x h.b.size hl
  have hO := Only.grown hgr
  have hcb := h.c.below B1
  have hyb := h.c.lt g y
  have hne : ∀ (j : Nat) z k, j ≠ g → ys[j]? = some z → z.ownBlock = some k → y'.ownBlock ≠ some k := by
    intro j z k hj hz hk hk'
    rcases hat with h1 | h1
    · rw [h1] at hk'
      exact hj (h.c.apart j g z y k hz hy hk hk')
    · rw [h1] at hk'
      injection hk' with hk'
      have := (h.c.lt j z k hz hk).2
      omega
  have hvy : ∀ k, (Value.slice (some ⟨ra, 0, none⟩) m ca).ownBlock = some k → y.ownBlock ≠ some k := fun k hk hk2 => h.c.ne ho k hk hk2.symm
  have hsz : W.heap.size ≤ w1.heap.size := Nat.le_trans B1.size hO.size
  -- the columns behind the append: all but column g are as they were
  have hrow : w1.ownsRow w.heap.size 24 1 (.slice (some ⟨ra, 0, none⟩) m ca) cs.length ys := own_kept hcb.own hO (fun k hk hm => hvy k hk (by simpa using hm))
  have hg1 : OwnI w1 w.heap.size vg G := own_kept (own_below h.g B1) hO (fun k hk hm => row_ne h.g ho (by decide) k hk (by simpa using hm))
  have hb1 : Below w.heap.size w w1 := Only.below (h.b.trans (B1.mono h.b.size)) hO (by have := h.b.size; simp; omega) (fun k hk => (hyb k hy (by simpa using hk)).1)
  have hOs : Only [ra] w1 (w1.setCell ⟨ra, g, none⟩ y') := Only.set (p := ⟨ra, g, none⟩) y'
  have hel : ∀ (j : Nat) z d, j ≠ g → ys[j]? = some z → cs[j]? = some d → Own w1 w.heap.size z d := fun j z d hj hz hd => own_kept (hcb.el j z d hz hd) hO (fun k hk hm => hj (h.c.apart j g z y k hz hy hk (by simpa using hm)))
  have hgs : OwnI (w1.setCell ⟨ra, g, none⟩ y') w.heap.size vg G := own_kept hg1 hOs (fun k hk hm => row_ne hg1 hrow (by decide) k hk (by simp at hm; subst hm; rfl))
  have hbs : Below w.heap.size w (w1.setCell ⟨ra, g, none⟩ y') := Only.below hb1 hOs hb1.size (by have := (hrow.lt ra rfl).1; simp; omega)
  have hcs : Cols (w1.setCell ⟨ra, g, none⟩ y') w.heap.size (.slice (some ⟨ra, 0, none⟩) m ca) (ys.set g y') (cs.set g (cs.getD g [] ++ [x])) := by
    have hkeep : ∀ (z : Value) (l : List Nat), Own w1 w.heap.size z l → Own (w1.setCell ⟨ra, g, none⟩ y') w.heap.size z l := fun z l hz => own_kept hz hOs (fun k hk hm => by
      simp at hm
      subst hm
      obtain ⟨cells, hcc⟩ := own_typed hrow k rfl
      exact own_blk hz hcc (by decide) hk)
    refine ⟨by rw [List.length_set, List.length_set, h.c.len], by rw [List.length_set]; exact own_set hrow y', fun j z d hz hd => ?_, fun i j yi yj k hi hj hki hkj => ?_⟩
    · rw [List.getElem?_set] at hz hd
      by_cases hj : g = j
      · rw [if_pos hj, if_pos (by rw [h.c.len]; exact hg)] at hz
        rw [if_pos hj, if_pos hg] at hd
        injection hz with hz
        injection hd with hd
        subst hz hd
        exact hkeep _ _ ho'
      · rw [if_neg hj] at hz hd
        exact hkeep _ _ (hel j z d (fun e => hj e.symm) hz hd)
    · rw [List.getElem?_set] at hi hj
      by_cases h1 : g = i <;> by_cases h2 : g = j
      · omega
      · rw [if_pos h1, if_pos (by rw [h.c.len]; exact hg)] at hi
        rw [if_neg h2] at hj
        injection hi with hi
        subst hi
        exact absurd hki (hne j yj k (fun e => h2 e.symm) hj hkj)
      · rw [if_neg h1] at hi
        rw [if_pos h2, if_pos (by rw [h.c.len]; exact hg)] at hj
        injection hj with hj
        subst hj
        exact absurd hkj (hne i yi k (fun e => h1 e.symm) hi hki)
      · rw [if_neg h1] at hi
        rw [if_neg h2] at hj
        exact h.c.apart i j yi yj k hi hj hki hkj
  refine ⟨y', w1, hr, ⟨_, (own_cell hrow (j := g) (by omega)).trans hy⟩, own_frozen hrow g, fun rg cg j z hv hj => ?_, fun rg cg j z hv hj => ?_, hcs, hgs, hbs⟩
  · have hl := (List.getElem?_eq_some_iff.1 hj).1
    subst hv
    exact (own_cell hg1 (j := j) (by omega)).trans (ints_get hj)
  · have hl := (List.getElem?_eq_some_iff.1 hj).1
    subst hv
    exact (own_cell hgs (j := j) (by omega)).trans (ints_get hj)
theorem Cols.start (W : World) (base : Nat) (hb : base ≤ W.heap.size) : Cols (W.alloc (.cells #[] 24)) base (.slice (some ⟨W.heap.size, 0, none⟩) 0 0) [] [] :=
  ⟨rfl, World.ownsRow_lit W #[] 0 hb (by unfold maxLen; omega) rfl, fun j y c h => by simp at h, fun i j yi yj k h => by simp at h⟩
theorem OwnI.start (W : World) (base : Nat) (hb : base ≤ W.heap.size) : OwnI (W.alloc (.cells #[] 3)) base (.slice (some ⟨W.heap.size, 0, none⟩) 0 0) [] := World.ownsRow_lit W #[] 0 hb (by unfold maxLen; omega) rfl
theorem rcv_close {w wr wz : World} {v0 v1 v2 : Value} {ys : List Value} {F : List (List Nat)} {R1 R2 : List Nat} (hb : Below w.heap.size w wr) (hbz : Below wr.heap.size wr wz) (hc : Cols wr w.heap.size v0 ys F) (h1 : Own wz wr.heap.size v1 R1) (h2 : Own wz wr.heap.size v2 R2) (ha : ∀ k, v1.ownBlock = some k → v2.ownBlock ≠ some k) {r : List (List Nat) × List Nat × List Nat × Int} (hr : r = (F, R1, R2, 0)) :
    RcvPost w r (.returned (.tuple #[v0, v1, v2, .int .i64 0])) wz := by
  subst hr
  refine ⟨v0, v1, v2, ys, rfl, hc.below hbz, own_lower h1 hb.size, own_lower h2 hb.size, fun j y k hy hk => ⟨fun h => ?_, fun h => ?_⟩, ha, hb.trans (hbz.mono hb.size)⟩
  · have a := (hc.lt j y k hy hk).2
    have b := (h1.lt k h).1
    omega
  · have a := (hc.lt j y k hy hk).2
    have b := (h2.lt k h).1
    omega
end Go.Proofs.Ythjodjfjeamilaa.Wd
namespace Go.Proofs.Ythjodjfjeamilaa.Pur
open Go Go.RowKit Go.Proofs.YthjodjfjeamilaaW.PrintWords Go.Proofs.Ythjodjfjeamilaa.PA Go.Proofs.Ythjodjfjeamilaa.BrPA
/-- The bytes of the one lost column. -/
def f1 (cs : List (List Nat)) (p q : List Nat) (g k : Nat) : Nat := if p.length = 0 then Math.mul (Math.inv (Math.e g)) (tt cs q k) else ss cs p k
def fX (cs : List (List Nat)) (p q : List Nat) (g h k : Nat) : Nat := Math.solX 1 1 (Math.e g) (Math.e h) (ss cs p k) (tt cs q k)
def fY (cs : List (List Nat)) (p q : List Nat) (g h k : Nat) : Nat := Math.solY 1 1 (Math.e g) (Math.e h) (ss cs p k) (tt cs q k)
theorem ss_eq {cs : List (List Nat)} {p : List Nat} (hp : Byt p) (k : Nat) : ss cs p k = wP cs k ^^^ p.getD k 0 := by unfold ss; rw [Math.one_mul _ (byt_get hp k)]
theorem tt_eq {cs : List (List Nat)} {p : List Nat} (hp : Byt p) (k : Nat) : tt cs p k = wQ cs k ^^^ p.getD k 0 := by unfold tt; rw [Math.one_mul _ (byt_get hp k)]
theorem fill_0 {cs : List (List Nat)} {p q : List Nat} (h : gone cs = []) (n : Nat) : fill cs p q n = cs := by unfold fill; rw [h]
theorem fill_1 {cs : List (List Nat)} {p q : List Nat} {g : Nat} (h : gone cs = [g]) (n : Nat) : fill cs p q n = cs.set g (tab n (f1 cs p q g)) := by
  unfold fill; rw [h]
  simp only
  by_cases hp : p.length = 0
  · rw [if_pos hp]; congr 1; exact tab_congr fun k _ => by unfold f1; rw [if_pos hp]
  · rw [if_neg hp]; congr 1; exact tab_congr fun k _ => by unfold f1; rw [if_neg hp]
theorem fill_2 {cs : List (List Nat)} {p q : List Nat} {g h' : Nat} (h : gone cs = [g, h']) (n : Nat) : fill cs p q n = (cs.set g (tab n (fX cs p q g h'))).set h' (tab n (fY cs p q g h')) := by
  unfold fill; rw [h]; rfl
theorem tab_push (n : Nat) (f : Nat → Nat) : tab n f ++ [f n] = tab (n + 1) f := by unfold tab; rw [List.range_succ, List.map_append]; rfl
theorem getD_set_self {cs : List (List Nat)} {g : Nat} (c : List Nat) (hg : g < cs.length) : (cs.set g c).getD g [] = c := by
  rw [List.getD_eq_getElem?_getD, List.getElem?_set, if_pos rfl, if_pos hg]; rfl
theorem getD_set_ne {cs : List (List Nat)} {g h : Nat} (c : List Nat) (hne : g ≠ h) : (cs.set g c).getD h [] = cs.getD h [] := by
  rw [List.getD_eq_getElem?_getD, List.getElem?_set, if_neg hne, List.getD_eq_getElem?_getD]
theorem fill_1s {cs : List (List Nat)} {p q : List Nat} {g : Nat} (h : gone cs = [g]) (hg : g < cs.length) (k : Nat) : (fill cs p q k).set g ((fill cs p q k).getD g [] ++ [f1 cs p q g k]) = fill cs p q (k + 1) ∧ ((fill cs p q k).getD g []).length = k := by
  rw [fill_1 h, fill_1 h, getD_set_self _ hg, tab_push, List.set_set]
  exact ⟨rfl, tab_len _ _⟩
theorem fill_2s {cs : List (List Nat)} {p q : List Nat} {g h' : Nat} (h : gone cs = [g, h']) (hg : g < cs.length) (hh : h' < cs.length) (hne : g ≠ h') (k : Nat) (A : List (List Nat)) (hA : A = (fill cs p q k).set g ((fill cs p q k).getD g [] ++ [fX cs p q g h' k])) : ((fill cs p q k).getD g []).length = k ∧ (A.getD h' []).length = k ∧ A.set h' (A.getD h' [] ++ [fY cs p q g h' k]) = fill cs p q (k + 1) := by
  subst hA
  have e : (fill cs p q k).getD g [] = tab k (fX cs p q g h') := by rw [fill_2 h, getD_set_ne _ (fun e => hne e.symm), getD_set_self _ hg]
  have e2 : ((fill cs p q k).set g ((fill cs p q k).getD g [] ++ [fX cs p q g h' k])).getD h' [] = tab k (fY cs p q g h') := by
    rw [getD_set_ne _ hne, fill_2 h, getD_set_self _ (by rw [List.length_set]; exact hh)]
  refine ⟨by rw [e, tab_len], by rw [e2, tab_len], ?_⟩
  rw [e2, e, tab_push, tab_push, fill_2 h, fill_2 h, List.set_comm _ _ (fun e => hne e.symm), List.set_set, List.set_set]
theorem one_ev {cs : List (List Nat)} {p q : List Nat} {g k n : Nat} (hc : Bytt cs) (hp : Byt p) (hq : Byt q) (hk : k < n) (hlc : ∀ c ∈ cs, c.length = 0 ∨ c.length = n) (hlp : p.length = 0 ∨ p.length = n) (hlq : q.length = 0 ∨ q.length = n) (hl : ¬ (p.length = 0 ∧ q.length = 0)) (hcn : cs.length ≤ 30) :
    Ev (fun r => ravelinref05_one.f r (II cs) (I p) (I q) (g : Int) (k : Int)) ((f1 cs p q g k : Nat) : Int) := by
  have hkc : ∀ c ∈ cs, c.length = 0 ∨ k < c.length := fun c h => by rcases hlc c h with h | h <;> omega
  unfold f1
  by_cases h0 : p.length = 0
  · obtain rfl := List.eq_nil_of_length_eq_zero h0
    rw [if_pos h0, tt_eq hq, Math.mul_comm (Math.inv_lt (Math.e_lt g)) (Math.xor_lt (wQ_lt hc k) (byt_get hq k))]
    exact one_q cs hc q hq g k hkc (by omega) (by rcases hlq with h | h <;> omega)
  · rw [if_neg h0, ss_eq hp]
    exact one_p cs hc p q hp g k hkc (by omega) (by rcases hlp with h | h <;> omega)
theorem two_ev' {cs : List (List Nat)} {p q : List Nat} {g h k n : Nat} (hc : Bytt cs) (hp : Byt p) (hq : Byt q) (hk : k < n) (hlc : ∀ c ∈ cs, c.length = 0 ∨ c.length = n) (hlp : p.length = n) (hlq : q.length = n) (hcn : cs.length ≤ 30) (hg : g < cs.length) (hh : h < cs.length) (hne : g ≠ h) :
    Ev (fun r => ravelinref05_two.f r (II cs) (I p) (I q) (g : Int) (h : Int) (k : Int)) (((fX cs p q g h k : Nat) : Int), ((fY cs p q g h k : Nat) : Int)) := by
  have hkc : ∀ c ∈ cs, c.length = 0 ∨ k < c.length := fun c h => by rcases hlc c h with h | h <;> omega
  unfold fX fY
  rw [ss_eq hp, tt_eq hq]
  exact two_ev cs hc p q hp hq g h k hkc (by omega) (by omega) (by omega) (det_ne (by omega) (by omega) hne)
theorem all_set {cs : List (List Nat)} {n g : Nat} {T : List Nat} (h : ∀ j, j < cs.length → j ≠ g → (cs.getD j []).length = n) (hT : T.length = n) : ∀ j, j < (cs.set g T).length → ((cs.set g T).getD j []).length = n := by
  intro j hj
  rw [List.length_set] at hj
  by_cases e : j = g
  · subst e; rw [getD_set_self _ hj, hT]
  · rw [getD_set_ne _ (fun h => e h.symm)]; exact h j hj e
theorem fill_good {cs : List (List Nat)} {p q : List Nat} {n : Nat} (h1 : 1 ≤ cs.length) (h2 : cs.length ≤ 30) (h3 : 1 ≤ n) (h4 : n ≤ 4096) (hlc : ∀ c ∈ cs, c.length = 0 ∨ c.length = n) (hg : (gone cs).length ≤ 2) : Good (fill cs p q n) n := by
  have key : ∀ j, j < (fill cs p q n).length → ((fill cs p q n).getD j []).length = n := by
    have hcol : ∀ j, j < cs.length → j ∉ gone cs → (cs.getD j []).length = n := fun j hj hn => by
      rcases hlc _ (getD_mem hj) with h | h
      · exact absurd (mem_gone hj h) hn
      · exact h
    rcases hG : gone cs with _ | ⟨g, _ | ⟨h, _ | ⟨h', G⟩⟩⟩
    · rw [fill_0 hG]
      exact fun j hj => hcol j hj (by rw [hG]; simp)
    · rw [fill_1 hG]
      exact all_set (fun j hj hn => hcol j hj (by rw [hG]; simpa using hn)) (tab_len _ _)
    · rw [fill_2 hG]
      refine all_set (fun j hj hn => ?_) (tab_len _ _)
      rw [List.length_set] at hj
      by_cases e : j = g
      · subst e; rw [getD_set_self _ hj, tab_len]
      · rw [getD_set_ne _ (fun h => e h.symm)]
        exact hcol j hj (by rw [hG]; simp [e, hn])
    · rw [hG] at hg; simp at hg
  refine Good.of (by rw [fill_len]; exact h1) (by rw [fill_len]; exact h2) h3 h4 fun c hc => ?_
  obtain ⟨j, hj, rfl⟩ := List.mem_iff_getElem.1 hc
  have := key j hj
  rw [List.getD_eq_getElem?_getD, List.getElem?_eq_getElem hj] at this
  exact this
end Go.Proofs.Ythjodjfjeamilaa.Pur
