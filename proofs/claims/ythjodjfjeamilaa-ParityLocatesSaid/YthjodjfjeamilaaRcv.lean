/- Recover, walked. -/
import Derived.Test.YthjodjfjeamilaaCols
set_option linter.unusedVariables false
set_option linter.unusedSimpArgs false
namespace Go.Proofs.Ythjodjfjeamilaa.Wd
open Go Go.RowKit Go.Proofs.YthjodjfjeamilaaW.PrintWords Go.Proofs.YthjodjfjeamilaaW.PrintLast Go.Proofs.YthjodjfjeamilaaW.PrintMore Go.Proofs.Ythjodjfjeamilaa.Bridge Go.Proofs.Ythjodjfjeamilaa.PA Go.Proofs.Ythjodjfjeamilaa.BrPA Go.Proofs.Ythjodjfjeamilaa.Pur
theorem results_4 {P : Program} {fn : Func} {a b c d : Tmp} (h : fn.results = #[.tmp a, .tmp b, .tmp c, .tmp d]) (tmps : Array Value) (w : World) :
    (results fn tmps).run P w = .ok (.tuple #[tmps.getD a undef, tmps.getD b undef, tmps.getD c undef, tmps.getD d undef]) w := by
  simp [results, h]
/-- What Recover answers, in memory. -/
def RcvPost (w : World) (r : List (List Nat) × List Nat × List Nat × Int) (e : Ending) (w' : World) : Prop :=
  ∃ v0 v1 v2 ys, e = .returned (.tuple #[v0, v1, v2, .int .i64 r.2.2.2]) ∧ Cols w' w.heap.size v0 ys r.1 ∧ Own w' w.heap.size v1 r.2.1 ∧ Own w' w.heap.size v2 r.2.2.1 ∧
    (∀ (j : Nat) y k, ys[j]? = some y → y.ownBlock = some k → v1.ownBlock ≠ some k ∧ v2.ownBlock ≠ some k) ∧ (∀ k, v1.ownBlock = some k → v2.ownBlock ≠ some k) ∧ Below w.heap.size w w'
theorem RcvPost.nil {w w' : World} {x : Int} (hb : Below w.heap.size w w') {r : List (List Nat) × List Nat × List Nat × Int} (hr : r = ([], [], [], x)) : RcvPost w r (.returned (.tuple #[.slice none 0 0, .slice none 0 0, .slice none 0 0, .int .i64 x])) w' := by
  subst hr
  exact ⟨_, _, _, [], rfl, Cols.nil _ _, World.ownsRow_nil _ _ _ _, World.ownsRow_nil _ _ _ _, fun j y k h => by simp at h, fun k h => by simp [Value.ownBlock] at h, hb⟩
theorem lens2_II2 (cs : List (List Nat)) : lens2 (II cs) = lens cs := by
  unfold lens2 II lens
  rw [List.map_map]
  exact List.map_congr_left fun c _ => I_len c
theorem wid_snd2 {ls : List Nat} {n l : Nat} (h : Snd ls n l) : wid ls = (n, l) := by
  rcases wid_cases ls with ⟨m, k, hs, _, h2⟩ | ⟨h1, _⟩
  · have e1 : m = n := by
      rcases hs.all n h.mem with h0 | h0
      · have := h.pos; omega
      · exact h0.symm
    have e2 : k = l := by rw [hs.lost, h.lost]
    rw [h2, e1, e2]
  · exact absurd h (h1 n l)
theorem width_f2 (cs : List (List Nat)) (ms : List (List Nat)) (hm : ms.length ≤ 2) : parity_width.f (II cs) (II ms) = some (if cs.length < 1 ∨ 30 < cs.length then (0, 0) else (((wid (lens (cs ++ ms))).1 : Int), ((wid (lens (cs ++ ms))).2 : Int))) := by
  unfold parity_width.f
  rw [II_len, II_len, if_pos hm]
  have e : II cs ++ II ms = II (cs ++ ms) := by unfold II; rw [List.map_append]
  rw [e, lens2_II2]
/-- Numbers of one's own. -/
def ints (l : List Nat) : List Value := l.map fun n : Nat => Value.int .i64 (n : Int)
def OwnI (w : World) (base : Nat) (v : Value) (l : List Nat) : Prop := w.ownsRow base 3 1 v l.length (ints l)
theorem ints_len (l : List Nat) : (ints l).length = l.length := by simp [ints]
theorem info3 : (Try.prog.info? 3).map (fun i => (i.zero, i.size, i.bytes)) = some (some (.int .i64 0), 1, 8) := by kernel_rfl
theorem slice_one {w : World} {base : Nat} {y : Value} {l : List Nat} (h : Own w base y l) : y.oneCell' = true := by
  obtain ⟨A, c, rfl, _⟩ := h.form
  rfl
/-- A column more. -/
theorem Cols.push {W : World} {base : Nat} {v y : Value} {ys : List Value} {cs : List (List Nat)} {c : List Nat} (h : Cols W base v ys cs) (ho : Own W base y c) (hf : ∀ (j : Nat) z k, ys[j]? = some z → z.ownBlock = some k → y.ownBlock ≠ some k) (hb : base ≤ W.heap.size) (hl : cs.length ≤ 90) :
    ∃ v' w1, (Builtin.append_ #[22, 22] 22 #[v, .slice (some ⟨W.heap.size, 0, none⟩) 1 1]).run Try.prog (W.alloc (.cells #[y] 24)) = .ok v' w1 ∧ Cols w1 base v' (ys ++ [y]) (cs ++ [c]) ∧ (W.alloc (.cells #[y] 24)).grownBy w1 v.ownBlock := by
  obtain ⟨i0, hi0, hz0, hz1, hz2⟩ := info_parts info24
  have B1 := balloc W (.cells #[y] 24)
  have h1 := h.below B1
  have ho1 := own_belowB ho B1
  obtain ⟨v', w1, hr, h3, h4, _, hat⟩ := run_append_own_at (P := Try.prog) (W.alloc (.cells #[y] 24)) base 22 22 24 i0 (.slice none 0 0) 1 24 Try.underlying22 hi0 hz0 hz1 hz2 rfl (by decide) v cs.length ys h1.own ⟨W.heap.size, 0, none⟩ 1 1 [y] rfl (fun j u hj => by
    have hj0 : j = 0 := by have := (List.getElem?_eq_some_iff.1 hj).1; simp at this; exact this
    subst hj0
    simp only [List.getElem?_cons_zero, Option.some.injEq] at hj
    subst hj
    rw [addr_add, cell_of_heap (heap_alloc_new W _)]
    rfl) (fun u hu => by simp at hu; subst hu; exact slice_one ho) (by unfold maxLen; omega) (by omega) (by simp; omega)
  have hO := Only.grown h4
  have hne : ∀ k, k ∈ v.ownBlock.toList → ∀ (z : Value) (l : List Nat), Own (W.alloc (.cells #[y] 24)) base z l → z.ownBlock ≠ some k := fun k hk z l hz he => h1.ne hz k (by simpa using hk) he.symm
  refine ⟨v', w1, hr, ⟨by simp [h.len], ?_, ?_, ?_⟩, h4⟩
  · rw [List.length_append]; exact h3
  · intro j z d hz hd
    rcases Nat.lt_or_ge j cs.length with hj | hj
    · rw [List.getElem?_append_left (by rw [h.len]; exact hj)] at hz
      rw [List.getElem?_append_left hj] at hd
      have he := h1.el j z d hz hd
      exact own_kept he hO (fun k hk hm => hne k hm z d he hk)
    · rw [List.getElem?_append_right (by rw [h.len]; exact hj), h.len] at hz
      rw [List.getElem?_append_right hj] at hd
      have h0 : j - cs.length = 0 := by have := (List.getElem?_eq_some_iff.1 hz).1; simp at this; omega
      rw [h0] at hz hd
      simp only [List.getElem?_cons_zero, Option.some.injEq] at hz hd
      subst hz hd
      exact own_kept ho1 hO (fun k hk hm => hne k hm y c ho1 hk)
  · intro i j yi yj k hi hj hki hkj
    have key : ∀ (a b : Nat) (ya yb : Value), a < b → (ys ++ [y])[a]? = some ya → (ys ++ [y])[b]? = some yb → ya.ownBlock = some k → yb.ownBlock = some k → a = b := by
      intro a b ya yb hab ha hb' hka hkb
      rcases Nat.lt_or_ge b ys.length with hbl | hbl
      · rw [List.getElem?_append_left (by omega)] at ha
        rw [List.getElem?_append_left hbl] at hb'
        exact h.apart a b ya yb k ha hb' hka hkb
      · have hb0 : b = ys.length := by have := (List.getElem?_eq_some_iff.1 hb').1; simp at this; omega
        subst hb0
        rw [List.getElem?_append_left (by omega)] at ha
        rw [List.getElem?_append_right (Nat.le_refl _), Nat.sub_self] at hb'
        simp only [List.getElem?_cons_zero, Option.some.injEq] at hb'
        subst hb'
        exact absurd hkb (hf a ya k ha hka)
    rcases Nat.lt_trichotomy i j with hlt | rfl | hgt
    · exact key i j yi yj hlt hi hj hki hkj
    · rfl
    · exact (key j i yj yi hgt hj hi hkj hki).symm
/-- A number more. -/
theorem OwnI.push {W : World} {base : Nat} {v : Value} {l : List Nat} (h : OwnI W base v l) (x : Nat) (hb : base ≤ W.heap.size) (hl : l.length ≤ 90) :
    ∃ v' w1, (Builtin.append_ #[53, 53] 53 #[v, .slice (some ⟨W.heap.size, 0, none⟩) 1 1]).run Try.prog (W.alloc (.cells #[.int .i64 (x : Int)] 3)) = .ok v' w1 ∧ OwnI w1 base v' (l ++ [x]) ∧ (W.alloc (.cells #[.int .i64 (x : Int)] 3)).grownBy w1 v.ownBlock := by
  obtain ⟨i0, hi0, hz0, hz1, hz2⟩ := info_parts info3
  have B1 := balloc W (.cells #[.int .i64 (x : Int)] 3)
  obtain ⟨v', w1, hr, h3, h4, _, hat⟩ := run_append_own_at (P := Try.prog) (W.alloc (.cells #[.int .i64 (x : Int)] 3)) base 53 53 3 i0 (.int .i64 0) 1 8 Try.underlying53 hi0 hz0 hz1 hz2 rfl (by decide) v l.length (ints l) (own_below h B1) ⟨W.heap.size, 0, none⟩ 1 1 [.int .i64 (x : Int)] rfl (fun j u hj => by
    have hj0 : j = 0 := by have := (List.getElem?_eq_some_iff.1 hj).1; simp at this; exact this
    subst hj0
    simp only [List.getElem?_cons_zero, Option.some.injEq] at hj
    subst hj
    rw [addr_add, cell_of_heap (heap_alloc_new W _)]
    rfl) (fun u hu => by simp at hu; subst hu; rfl) (by unfold maxLen; omega) (by omega) (by simp; omega)
  refine ⟨v', w1, hr, ?_, h4⟩
  unfold OwnI ints at *
  rw [List.length_append, List.map_append]
  exact h3
/-- Rows of different kinds share no block. -/
theorem row_ne {w : World} {b1 b2 e1 e2 s1 s2 n1 n2 : Nat} {v1 v2 : Value} {x1 x2 : List Value} (h1 : w.ownsRow b1 e1 s1 v1 n1 x1) (h2 : w.ownsRow b2 e2 s2 v2 n2 x2) (hne : e1 ≠ e2) : ∀ k, v1.ownBlock = some k → v2.ownBlock ≠ some k := by
  intro k hk hk2
  obtain ⟨cells, hc⟩ := own_typed h2 k hk2
  exact own_blk h1 hc hne hk
theorem getD_of {cs : List (List Nat)} {i : Nat} (h : i < cs.length) : cs.getD i [] = cs[i] := by rw [List.getD_eq_getElem?_getD, List.getElem?_eq_getElem h]; rfl
/-- A row of noughts, made. -/
theorem mk_run (n : Nat) (hn : n ≤ 4096) (W : World) : (Instr.makeSlice 24 (.int .i64 (n : Int)) (.int .i64 (n : Int))).run Try.prog W = .ok (.slice (some ⟨W.heap.size, 0, none⟩) n n) (W.alloc (.cells (u8n (tab n fun _ => 0)).toArray 5)) := by
  obtain ⟨i0, hi0, hz0, hz1, hz2⟩ := info_parts info5b
  have h := run_makeSlice (P := Try.prog) (w := W) 24 5 i0 (.int .u8 0) Try.underlying24 hi0 hz0 .i64 .i64 (n : Int) (n : Int) (by omega) (Int.le_refl _) (by rw [hz1]; omega) (by rw [hz2]; omega) (by omega)
  rw [Int.toNat_natCast, hz1, Nat.mul_one] at h
  have e : madeCells (Value.int .u8 0).cells n = (u8n (tab n fun _ => 0)).toArray := by
    apply Array.ext
    · rw [size_madeCells, List.size_toArray, u8n_len, tab_len]
    · intro j h1 h2
      have h1' : j < n := by rw [size_madeCells] at h1; exact h1
      simp [madeCells, u8n, encs, I, tab, Value.cells, Nat.mod_one]
  rw [e] at h
  exact h
theorem mk_own (n : Nat) (hn : n ≤ 4096) (W : World) (base : Nat) (hb : base ≤ W.heap.size) : Own (W.alloc (.cells (u8n (tab n fun _ => 0)).toArray 5)) base (.slice (some ⟨W.heap.size, 0, none⟩) n n) (tab n fun _ => 0) := by
  have h := World.ownsRow_lit (base := base) (e := 5) (size := 1) W (u8n (tab n fun _ => 0)).toArray n hb (by unfold maxLen; omega) (by rw [List.size_toArray, u8n_len, tab_len, Nat.mul_one])
  unfold Own
  rw [tab_len]
  exact h
/-- A column is put in another's place. -/
theorem Cols.set {W : World} {base : Nat} {r cap : Nat} {y : Value} {ys : List Value} {cs : List (List Nat)} {c : List Nat} {g m : Nat} (h : Cols W base (.slice (some ⟨r, 0, none⟩) m cap) ys cs) (ho : Own W base y c) (hg : g < cs.length) (hf : ∀ (j : Nat) z k, ys[j]? = some z → z.ownBlock = some k → y.ownBlock ≠ some k) : Cols (W.setCell ⟨r, g, none⟩ y) base (.slice (some ⟨r, 0, none⟩) m cap) (ys.set g y) (cs.set g c) := by
  have hO : Only [r] W (W.setCell ⟨r, g, none⟩ y) := Only.set (p := ⟨r, g, none⟩) y
  have hne : ∀ (z : Value) (l : List Nat), Own W base z l → ∀ k, z.ownBlock = some k → k ∉ [r] := fun z l hz k hk hm => by
    simp at hm
    subst hm
    exact h.ne hz k rfl hk.symm
  refine ⟨by rw [List.length_set, List.length_set, h.len], ?_, ?_, ?_⟩
  · obtain ⟨h1, h2⟩ := h.own
    refine ⟨by rw [List.length_set, List.length_set, h1], ?_⟩
    rcases h2 with ⟨hv, _⟩ | ⟨b, cp, cur, hv, hb, hh, hn, hm, hs, ht⟩
    · cases hv
    · injection hv with e1 e2 e3
      injection e1 with e1
      injection e1 with e1
      subst e1 e2 e3
      refine .inr ⟨r, cap, cur.setIfInBounds g y, by rw [List.length_set], hb, heap_set hh g y, by rw [List.length_set]; exact hn, hm, by rw [Array.size_setIfInBounds]; exact hs, ?_⟩
      rw [List.length_set, Array.toList_setIfInBounds, List.take_set, ht]
  · intro j z d hz hd
    rw [List.getElem?_set] at hz hd
    by_cases hj : g = j
    · rw [if_pos hj, if_pos (by rw [h.len]; exact hg)] at hz
      rw [if_pos hj, if_pos hg] at hd
      injection hz with hz
      injection hd with hd
      subst hz hd
      exact own_kept ho hO (hne y _ ho)
    · rw [if_neg hj] at hz hd
      have he := h.el j z d hz hd
      exact own_kept he hO (hne z _ he)
  · intro i j yi yj k hi hj hki hkj
    rw [List.getElem?_set] at hi hj
    by_cases h1 : g = i <;> by_cases h2 : g = j
    · omega
    · rw [if_pos h1, if_pos (by rw [h.len]; exact hg)] at hi
      rw [if_neg h2] at hj
      injection hi with hi
      subst hi
      exact absurd hki (hf j yj k hj hkj)
    · rw [if_neg h1] at hi
      rw [if_pos h2, if_pos (by rw [h.len]; exact hg)] at hj
      injection hj with hj
      subst hj
      exact absurd hkj (hf i yi k hi hki)
    · rw [if_neg h1] at hi
      rw [if_neg h2] at hj
      exact h.apart i j yi yj k hi hj hki hkj
theorem Cols.lt {W : World} {base : Nat} {v : Value} {ys : List Value} {cs : List (List Nat)} (h : Cols W base v ys cs) : ∀ (j : Nat) y k, ys[j]? = some y → y.ownBlock = some k → base ≤ k ∧ k < W.heap.size := by
  intro j y k hy hk
  have hjl : j < cs.length := by have := (List.getElem?_eq_some_iff.1 hy).1; rw [h.len] at this; exact this
  exact (h.el j y _ hy (List.getElem?_eq_getElem hjl)).lt k hk
theorem inv_any (a : Nat) (ha : a < 256) (h0 : a ≠ 0) (w : World) : Calls Try.prog 35 #[.int .u8 (a : Int)] w fun e w' => e = .returned (.tuple #[.int .u8 ((Math.inv a : Nat) : Int), .int .i64 0]) ∧ Below w.heap.size w w' := by
  obtain ⟨k, hk⟩ := (inv_ev a ha h0).rounds
  refine (gf_Inv.calls k _ _ _ w hk).mono ?_
  rintro e w' ⟨he, hd⟩
  exact ⟨he, hd.below⟩
theorem solve_any (a b s t : Nat) (ha : a < 256) (hb : b < 256) (hs : s < 256) (ht : t < 256) (hd : Math.det 1 1 a b ≠ 0) (w : World) : Calls Try.prog 36 #[.int .u8 1, .int .u8 1, .int .u8 (a : Int), .int .u8 (b : Int), .int .u8 (s : Int), .int .u8 (t : Int)] w fun e w' => e = .returned (.tuple #[.int .u8 ((Math.solX 1 1 a b s t : Nat) : Int), .int .u8 ((Math.solY 1 1 a b s t : Nat) : Int), .int .i64 0]) ∧ Below w.heap.size w w' := by
  obtain ⟨k, hk⟩ := (solve_ev 1 1 a b s t (by decide) (by decide) ha hb hs ht hd).rounds
  refine (gf_Solve.calls k _ _ _ _ _ _ _ _ _ w hk).mono ?_
  rintro e w' ⟨he, hd⟩
  exact ⟨he, hd.below⟩
theorem cell_below {w w' : World} {a : Addr} {v : Value} (h : w.cell? a = some v) (hb : Below w.heap.size w w') : w'.cell? a = some v := by
  rw [hb.cell (World.block_lt_of_cell? w a h)]; exact h
theorem own_set {W : World} {base e r m cap n k : Nat} {xs : List Value} (h : W.ownsRow base e 1 (.slice (some ⟨r, 0, none⟩) m cap) n xs) (y : Value) : (W.setCell ⟨r, k, none⟩ y).ownsRow base e 1 (.slice (some ⟨r, 0, none⟩) m cap) n (xs.set k y) := by
  obtain ⟨h1, h2⟩ := h
  refine ⟨by rw [List.length_set]; exact h1, ?_⟩
  rcases h2 with ⟨hv, _⟩ | ⟨b, cp, cur, hv, hb, hh, hn, hm, hs, ht⟩
  · cases hv
  · injection hv with e1 e2 e3
    injection e1 with e1
    injection e1 with e1
    subst e1 e2 e3
    refine .inr ⟨r, cap, cur.setIfInBounds k y, rfl, hb, heap_set hh k y, hn, hm, by rw [Array.size_setIfInBounds]; exact hs, ?_⟩
    rw [Array.toList_setIfInBounds, List.take_set, ht]
/-- The first k bytes of f, noughts behind them. -/
def upto (f : Nat → Nat) (k j : Nat) : Nat := if j < k then f j else 0
theorem own_upto {W : World} {base r m cap n k : Nat} {f : Nat → Nat} (h : Own W base (.slice (some ⟨r, 0, none⟩) m cap) (tab n (upto f k))) : Own (W.setCell ⟨r, k, none⟩ (.int .u8 (f k : Int))) base (.slice (some ⟨r, 0, none⟩) m cap) (tab n (upto f (k + 1))) := by
  have h1 := own_set (k := k) h (.int .u8 (f k : Int))
  have e : (u8n (tab n (upto f k))).set k (.int .u8 (f k : Int)) = u8n (tab n (upto f (k + 1))) := by
    unfold u8n encs
    rw [← List.map_set, I_set, set_tab]
    congr 2
    apply tab_congr
    intro j _
    unfold upto
    by_cases hj : j = k
    · subst hj; rw [if_pos rfl, if_pos (by omega)]
    · rw [if_neg hj]
      by_cases hl : j < k
      · rw [if_pos hl, if_pos (by omega)]
      · rw [if_neg hl, if_neg (by omega)]
  rw [e] at h1
  unfold Own at *
  rw [tab_len] at *
  exact h1
theorem u8n_get (n : Nat) (f : Nat → Nat) (k : Nat) (h : k < n) : (u8n (tab n f))[k]? = some (.int .u8 (f k : Int)) := by
  unfold u8n
  rw [encs_get (d := 0) _ _ (by rw [I_len, tab_len]; exact h)]
  have := rd_I (tab n f) k
  unfold rd at this
  rw [Int.toNat_natCast] at this
  rw [this, tab_get h]
/-- Two rows of noughts have been made. -/
structure Two (w w5 wx : World) (n : Nat) (vx vy : Value) (bx by_ : Nat) : Prop where
  ex : vx = .slice (some ⟨bx, 0, none⟩) n n
  ey : vy = .slice (some ⟨by_, 0, none⟩) n n
  ox : Own wx w.heap.size vx (tab n (upto (fun _ => 0) 0))
  oy : Own wx w.heap.size vy (tab n (upto (fun _ => 0) 0))
  ne : bx ≠ by_
  gx : w5.heap.size ≤ bx
  gy : w5.heap.size ≤ by_
  below : Below w5.heap.size w5 wx
theorem two_mk (w w5 : World) (n : Nat) (hn : n ≤ 4096) (hb : w.heap.size ≤ w5.heap.size) : Two w w5 ((w5.alloc (.cells (u8n (tab n fun _ => 0)).toArray 5)).alloc (.cells (u8n (tab n fun _ => 0)).toArray 5)).drew n (.slice (some ⟨w5.heap.size, 0, none⟩) n n) (.slice (some ⟨w5.heap.size + 1, 0, none⟩) n n) w5.heap.size (w5.heap.size + 1) ∧
    Two w w5 ((w5.alloc (.cells (u8n (tab n fun _ => 0)).toArray 5)).alloc (.cells (u8n (tab n fun _ => 0)).toArray 5)).drew n (.slice (some ⟨w5.heap.size + 1, 0, none⟩) n n) (.slice (some ⟨w5.heap.size, 0, none⟩) n n) (w5.heap.size + 1) w5.heap.size := by
  have e : tab n (upto (fun _ => 0) 0) = tab n (fun _ => 0) := tab_congr fun k _ => by unfold upto; rw [if_neg (by omega)]
  have o1 : Own (w5.alloc (.cells (u8n (tab n fun _ => 0)).toArray 5)) w.heap.size (.slice (some ⟨w5.heap.size, 0, none⟩) n n) (tab n (upto (fun _ => 0) 0)) := by rw [e]; exact mk_own n hn w5 w.heap.size hb
  have o2 : Own ((w5.alloc (.cells (u8n (tab n fun _ => 0)).toArray 5)).alloc (.cells (u8n (tab n fun _ => 0)).toArray 5)) w.heap.size (.slice (some ⟨w5.heap.size + 1, 0, none⟩) n n) (tab n (upto (fun _ => 0) 0)) := by
    rw [e]
    have h := mk_own n hn (w5.alloc (.cells (u8n (tab n fun _ => 0)).toArray 5)) w.heap.size (by simp; omega)
    have hz : (w5.alloc (.cells (u8n (tab n fun _ => 0)).toArray 5)).heap.size = w5.heap.size + 1 := by simp
    rw [hz] at h
    exact h
  have B1 := balloc w5 (.cells (u8n (tab n fun _ => 0)).toArray 5)
  have B2 := balloc (w5.alloc (.cells (u8n (tab n fun _ => 0)).toArray 5)) (.cells (u8n (tab n fun _ => 0)).toArray 5)
  have o1' := own_belowB (own_belowB o1 B2) (Below.refl _ _).drew
  have o2' := own_belowB o2 (Below.refl _ _).drew
  have B3 : Below w5.heap.size w5 ((w5.alloc (.cells (u8n (tab n fun _ => 0)).toArray 5)).alloc (.cells (u8n (tab n fun _ => 0)).toArray 5)).drew := (B1.trans (B2.mono B1.size)).drew
  exact ⟨⟨rfl, rfl, o1', o2', by omega, by omega, by omega, B3⟩, ⟨rfl, rfl, o2', o1', by omega, by omega, by omega, B3⟩⟩
theorem upto_zero (n : Nat) (f : Nat → Nat) : tab n (upto f 0) = tab n (fun _ => 0) := tab_congr fun k _ => by unfold upto; rw [if_neg (by omega)]
/-- Recover's loop over two lost columns: kx bytes of the one and ky of the other are reckoned. -/
structure Rnd (w W : World) (n bx by_ : Nat) (fX fY : Nat → Nat) (kx ky ra m ca : Nat) (ys : List Value) (cs : List (List Nat)) (rg cg g h rs csn rt ctn : Nat) (ps qs : Nat → Nat) : Prop where
  ox : Own W w.heap.size (.slice (some ⟨bx, 0, none⟩) n n) (tab n (upto fX kx))
  oy : Own W w.heap.size (.slice (some ⟨by_, 0, none⟩) n n) (tab n (upto fY ky))
  c : Cols W w.heap.size (.slice (some ⟨ra, 0, none⟩) m ca) ys cs
  g : OwnI W w.heap.size (.slice (some ⟨rg, 0, none⟩) 2 cg) [g, h]
  s : Own W w.heap.size (.slice (some ⟨rs, 0, none⟩) n csn) (tab n ps)
  t : Own W w.heap.size (.slice (some ⟨rt, 0, none⟩) n ctn) (tab n qs)
  b : Below w.heap.size w W
  ne : bx ≠ by_ ∧ bx ≠ rs ∧ bx ≠ rt ∧ by_ ≠ rs ∧ by_ ≠ rt
  far : ∀ (j : Nat) y k, ys[j]? = some y → y.ownBlock = some k → bx ≠ k ∧ by_ ≠ k
section
variable {w W W' : World} {n bx by_ : Nat} {fX fY : Nat → Nat} {kx ky ra m ca : Nat} {ys : List Value} {cs : List (List Nat)} {rg cg g h rs csn rt ctn : Nat} {ps qs : Nat → Nat}
theorem Rnd.below (H : Rnd w W n bx by_ fX fY kx ky ra m ca ys cs rg cg g h rs csn rt ctn ps qs) (hb : Below W.heap.size W W') : Rnd w W' n bx by_ fX fY kx ky ra m ca ys cs rg cg g h rs csn rt ctn ps qs :=
  ⟨own_belowB H.ox hb, own_belowB H.oy hb, H.c.below hb, own_below H.g hb, own_belowB H.s hb, own_belowB H.t hb, H.b.trans (hb.mono H.b.size), H.ne, H.far⟩
theorem Rnd.x (H : Rnd w W n bx by_ fX fY kx ky ra m ca ys cs rg cg g h rs csn rt ctn ps qs) : Rnd w (W.setCell ⟨bx, kx, none⟩ (.int .u8 (fX kx : Int))) n bx by_ fX fY (kx + 1) ky ra m ca ys cs rg cg g h rs csn rt ctn ps qs := by
  have hO : Only [bx] W (W.setCell ⟨bx, kx, none⟩ (.int .u8 (fX kx : Int))) := Only.set (p := ⟨bx, kx, none⟩) _
  obtain ⟨n1, n2, n3, n4, n5⟩ := H.ne
  refine ⟨own_upto H.ox, own_kept H.oy hO (fun k hk hm => ?_), H.c.far (S := fun k => k = bx) ⟨hO.size, fun k hk hn => hO.block k hk (by simpa using hn)⟩ (fun j y k hy hk h2 => (H.far j y k hy hk).1 h2.symm) (fun k hk h2 => H.c.ne H.ox k hk (by rw [h2]; rfl)), own_kept H.g hO (fun k hk hm => row_ne H.g H.ox (by decide) k hk (by simp at hm; subst hm; rfl)), own_kept H.s hO (fun k hk hm => ?_), own_kept H.t hO (fun k hk hm => ?_), Only.below H.b hO H.b.size (by have := (H.ox.lt bx rfl).1; simp; omega), H.ne, H.far⟩
  all_goals
    simp [Value.ownBlock] at hk
    simp at hm
    omega
theorem Rnd.y (H : Rnd w W n bx by_ fX fY kx ky ra m ca ys cs rg cg g h rs csn rt ctn ps qs) : Rnd w (W.setCell ⟨by_, ky, none⟩ (.int .u8 (fY ky : Int))) n bx by_ fX fY kx (ky + 1) ra m ca ys cs rg cg g h rs csn rt ctn ps qs := by
  have hO : Only [by_] W (W.setCell ⟨by_, ky, none⟩ (.int .u8 (fY ky : Int))) := Only.set (p := ⟨by_, ky, none⟩) _
  obtain ⟨n1, n2, n3, n4, n5⟩ := H.ne
  refine ⟨own_kept H.ox hO (fun k hk hm => ?_), own_upto H.oy, H.c.far (S := fun k => k = by_) ⟨hO.size, fun k hk hn => hO.block k hk (by simpa using hn)⟩ (fun j y k hy hk h2 => (H.far j y k hy hk).2 h2.symm) (fun k hk h2 => H.c.ne H.oy k hk (by rw [h2]; rfl)), own_kept H.g hO (fun k hk hm => row_ne H.g H.oy (by decide) k hk (by simp at hm; subst hm; rfl)), own_kept H.s hO (fun k hk hm => ?_), own_kept H.t hO (fun k hk hm => ?_), Only.below H.b hO H.b.size (by have := (H.oy.lt by_ rfl).1; simp; omega), H.ne, H.far⟩
  all_goals
    simp [Value.ownBlock] at hk
    simp at hm
    omega
theorem Rnd.cx (H : Rnd w W n bx by_ fX fY kx ky ra m ca ys cs rg cg g h rs csn rt ctn ps qs) {k : Nat} (hk : k < n) : ∃ u, W.cell? ⟨bx, k, none⟩ = some u := ⟨_, (own_cell H.ox (j := k) (by rw [tab_len]; omega)).trans (u8n_get n _ k hk)⟩
theorem Rnd.cy (H : Rnd w W n bx by_ fX fY kx ky ra m ca ys cs rg cg g h rs csn rt ctn ps qs) {k : Nat} (hk : k < n) : ∃ u, W.cell? ⟨by_, k, none⟩ = some u := ⟨_, (own_cell H.oy (j := k) (by rw [tab_len]; omega)).trans (u8n_get n _ k hk)⟩
theorem Rnd.gcell (H : Rnd w W n bx by_ fX fY kx ky ra m ca ys cs rg cg g h rs csn rt ctn ps qs) : W.cell? ⟨rg, 0, none⟩ = some (.int .i64 (g : Int)) ∧ W.cell? ⟨rg, 1, none⟩ = some (.int .i64 (h : Int)) := ⟨(own_cell H.g (j := 0) (by simp)).trans rfl, (own_cell H.g (j := 1) (by simp)).trans rfl⟩
theorem Rnd.scell (H : Rnd w W n bx by_ fX fY kx ky ra m ca ys cs rg cg g h rs csn rt ctn ps qs) {k : Nat} (hk : k < n) : W.cell? ⟨rg, 0, none⟩ = some (.int .i64 (g : Int)) ∧ W.cell? ⟨rg, 1, none⟩ = some (.int .i64 (h : Int)) ∧ W.cell? ⟨rs, k, none⟩ = some (.int .u8 ((ps k : Nat) : Int)) ∧ W.cell? ⟨rt, k, none⟩ = some (.int .u8 ((qs k : Nat) : Int)) :=
  ⟨H.gcell.1, H.gcell.2, (own_cell H.s (j := k) (by rw [tab_len]; omega)).trans (u8n_get n _ k hk), (own_cell H.t (j := k) (by rw [tab_len]; omega)).trans (u8n_get n _ k hk)⟩
theorem tab_upto (n : Nat) (f : Nat → Nat) : tab n (upto f n) = tab n f := tab_congr fun k hk => by unfold upto; rw [if_pos hk]
/-- The two columns are put in their places. -/
structure Fin2 (w W : World) (n bx by_ : Nat) (fX fY : Nat → Nat) (ra m ca : Nat) (ys : List Value) (cs : List (List Nat)) (rg g h : Nat) : Prop where
  cg : W.cell? ⟨rg, 0, none⟩ = some (.int .i64 (g : Int)) ∧ W.cell? ⟨rg, 1, none⟩ = some (.int .i64 (h : Int))
  cx : ∃ u, W.cell? ⟨ra, g, none⟩ = some u
  fx : W.frozen? ⟨ra, g, none⟩ = false
  cg1 : (W.setCell ⟨ra, g, none⟩ (.slice (some ⟨bx, 0, none⟩) n n)).cell? ⟨rg, 0, none⟩ = some (.int .i64 (g : Int)) ∧ (W.setCell ⟨ra, g, none⟩ (.slice (some ⟨bx, 0, none⟩) n n)).cell? ⟨rg, 1, none⟩ = some (.int .i64 (h : Int))
  cy : ∃ u, (W.setCell ⟨ra, g, none⟩ (.slice (some ⟨bx, 0, none⟩) n n)).cell? ⟨ra, h, none⟩ = some u
  fy : (W.setCell ⟨ra, g, none⟩ (.slice (some ⟨bx, 0, none⟩) n n)).frozen? ⟨ra, h, none⟩ = false
  cg2 : ((W.setCell ⟨ra, g, none⟩ (.slice (some ⟨bx, 0, none⟩) n n)).setCell ⟨ra, h, none⟩ (.slice (some ⟨by_, 0, none⟩) n n)).cell? ⟨rg, 0, none⟩ = some (.int .i64 (g : Int)) ∧ ((W.setCell ⟨ra, g, none⟩ (.slice (some ⟨bx, 0, none⟩) n n)).setCell ⟨ra, h, none⟩ (.slice (some ⟨by_, 0, none⟩) n n)).cell? ⟨rg, 1, none⟩ = some (.int .i64 (h : Int))
  c : Cols ((W.setCell ⟨ra, g, none⟩ (.slice (some ⟨bx, 0, none⟩) n n)).setCell ⟨ra, h, none⟩ (.slice (some ⟨by_, 0, none⟩) n n)) w.heap.size (.slice (some ⟨ra, 0, none⟩) m ca) ((ys.set g (.slice (some ⟨bx, 0, none⟩) n n)).set h (.slice (some ⟨by_, 0, none⟩) n n)) ((cs.set g (tab n fX)).set h (tab n fY))
  b : Below w.heap.size w ((W.setCell ⟨ra, g, none⟩ (.slice (some ⟨bx, 0, none⟩) n n)).setCell ⟨ra, h, none⟩ (.slice (some ⟨by_, 0, none⟩) n n))
theorem Rnd.fin (H : Rnd w W n bx by_ fX fY n n ra m ca ys cs rg cg g h rs csn rt ctn ps qs) (hg : g < cs.length) (hh : h < cs.length) : Fin2 w W n bx by_ fX fY ra m ca ys cs rg g h := by
  have ox := H.ox
  have oy := H.oy
  rw [tab_upto] at ox oy
  have hx := H.c.ne ox
  have hy := H.c.ne oy
  have hO1 : Only [ra] W (W.setCell ⟨ra, g, none⟩ (.slice (some ⟨bx, 0, none⟩) n n)) := Only.set (p := ⟨ra, g, none⟩) _
  have c1 := H.c.set ox hg (fun j z k hz hk h2 => (H.far j z k hz hk).1 (by simpa [Value.ownBlock] using h2))
  have oy1 := own_kept oy hO1 (fun k hk hm => hy ra rfl (by simp at hm; subst hm; exact hk.symm))
  have g1 : OwnI (W.setCell ⟨ra, g, none⟩ (.slice (some ⟨bx, 0, none⟩) n n)) w.heap.size (.slice (some ⟨rg, 0, none⟩) 2 cg) [g, h] := own_kept H.g hO1 (fun k hk hm => row_ne H.g H.c.own (by decide) k hk (by simp at hm; subst hm; rfl))
  have hO2 : Only [ra] (W.setCell ⟨ra, g, none⟩ (.slice (some ⟨bx, 0, none⟩) n n)) ((W.setCell ⟨ra, g, none⟩ (.slice (some ⟨bx, 0, none⟩) n n)).setCell ⟨ra, h, none⟩ (.slice (some ⟨by_, 0, none⟩) n n)) := Only.set (p := ⟨ra, h, none⟩) _
  have g2 : OwnI ((W.setCell ⟨ra, g, none⟩ (.slice (some ⟨bx, 0, none⟩) n n)).setCell ⟨ra, h, none⟩ (.slice (some ⟨by_, 0, none⟩) n n)) w.heap.size (.slice (some ⟨rg, 0, none⟩) 2 cg) [g, h] := own_kept g1 hO2 (fun k hk hm => row_ne g1 c1.own (by decide) k hk (by simp at hm; subst hm; rfl))
  have c2 := c1.set oy1 (g := h) (by rw [List.length_set]; exact hh) (fun j z k hz hk h2 => by
    rw [List.getElem?_set] at hz
    have h3 : by_ = k := by simpa [Value.ownBlock] using h2
    by_cases hj : g = j
    · rw [if_pos hj] at hz
      split at hz
      · injection hz with hz
        subst hz
        have h4 : bx = k := by simpa [Value.ownBlock] using hk
        exact H.ne.1 (h4.trans h3.symm)
      · cases hz
    · rw [if_neg hj] at hz
      exact (H.far j z k hz hk).2 h3)
  have b1 := Only.below H.b hO1 H.b.size (by have := (H.c.own.lt ra rfl).1; simp; omega)
  have b2 := Only.below b1 hO2 b1.size (by have := (H.c.own.lt ra rfl).1; simp; omega)
  exact ⟨H.gcell, ⟨_, (own_cell H.c.own (j := g) (by omega)).trans (List.getElem?_eq_getElem (by rw [H.c.len]; exact hg))⟩, own_frozen H.c.own g,
    ⟨(own_cell g1 (j := 0) (by simp)).trans rfl, (own_cell g1 (j := 1) (by simp)).trans rfl⟩,
    ⟨_, (own_cell c1.own (j := h) (by rw [List.length_set]; omega)).trans (List.getElem?_eq_getElem (by rw [c1.len, List.length_set]; exact hh))⟩, own_frozen c1.own h,
    ⟨(own_cell g2 (j := 0) (by simp)).trans rfl, (own_cell g2 (j := 1) (by simp)).trans rfl⟩, c2, b2⟩
end
/-- Recover's first loop: i columns are copied. -/
structure Lp (w0 w : World) (cs : List (List Nat)) (i : Nat) (va : Value) (ys : List Value) (vg : Value) : Prop where
  cols : Cols w w0.heap.size va ys (cs.take i)
  gone : OwnI w w0.heap.size vg (goneTo cs i)
  below : Below w0.heap.size w0 w
set_option maxRecDepth 100000 in
set_option maxHeartbeats 16000000 in
theorem recover_good (w : World) (A0 : Option Addr) (c0 : Nat) (cs : List (List Nat)) (A1 : Option Addr) (c1 : Nat) (p : List Nat) (A2 : Option Addr) (c2 : Nat) (q : List Nat) (h0 : Kd.C (Kd.slice 5 (Kd.int .u8)) w A0 (II cs).length (II cs)) (k0 : (II cs).length ≤ c0) (h1 : RdB w A1 p) (k1 : (I p).length ≤ c1) (h2 : RdB w A2 q) (k2 : (I q).length ≤ c2)
    (b0 : Bytt cs) (b1 : Byt p) (b2 : Byt q) (n l : Nat) (hl1 : 1 ≤ cs.length) (hl2 : cs.length ≤ 30) (hs : Snd (lens (cs ++ [p, q])) n l) (hl : l ≤ 2) :
    Calls Try.prog 20 #[.slice A0 (II cs).length c0, .slice A1 (I p).length c1, .slice A2 (I q).length c2] w (RcvPost w (fill cs p q n, if p.length = 0 then tab n (wP (fill cs p q n)) else p, if q.length = 0 then tab n (wQ (fill cs p q n)) else q, 0)) := by
  have hn1 := hs.pos
  have hn4 := hs.lim
  have hlc : ∀ c ∈ cs, c.length = 0 ∨ c.length = n := fun c hc => hs.all _ (List.mem_map.2 ⟨c, List.mem_append_left _ hc, rfl⟩)
  have hlp : p.length = 0 ∨ p.length = n := hs.all _ (List.mem_map.2 ⟨p, by simp, rfl⟩)
  have hlq : q.length = 0 ∨ q.length = n := hs.all _ (List.mem_map.2 ⟨q, by simp, rfl⟩)
  have hcnt : (gone cs).length + (if p.length = 0 then 1 else 0) + (if q.length = 0 then 1 else 0) ≤ 2 := by
    rw [gone_count]
    have := hs.lost
    have e : lens (cs ++ [p, q]) = lens cs ++ [p.length, q.length] := by unfold lens; simp
    rw [e, List.count_append] at this
    have e2 : List.count 0 [p.length, q.length] = (if p.length = 0 then 1 else 0) + (if q.length = 0 then 1 else 0) := by
      by_cases hp0 : p.length = 0 <;> by_cases hq0 : q.length = 0 <;> simp [List.count_cons, hp0, hq0]
    omega
  generalize hF : fill cs p q n = F
  have HF := Lib.hid hF
  generalize hR : (F, (if p.length = 0 then tab n (wP F) else p), (if q.length = 0 then tab n (wQ F) else q), (0 : Int)) = R
  have HR := Lib.hid hR
  clear hF hR
  have hcl := cols_lit w [(A1, c1, p), (A2, c2, q)] (by intro x hx; simp at hx; rcases hx with rfl | rfl; exact ⟨h1, k1⟩; exact ⟨h2, k2⟩) (by simp)
  have B1 := balloc w (.cells #[.slice A1 (I p).length c1, .slice A2 (I q).length c2] 24)
  have hW := width_f2 cs [p, q] (by simp)
  rw [if_neg (by omega), wid_snd2 hs] at hW
  have HC : Hid (Calls Try.prog 22 #[.slice A0 (II cs).length c0, .slice (some ⟨w.heap.size, 0, none⟩) 2 2] (w.alloc (.cells #[.slice A1 (I p).length c1, .slice A2 (I q).length c2] 24)) fun e w' => e = .returned (.tuple #[.int .i64 (n : Int), .int .i64 (l : Int)]) ∧ Below (w.alloc (.cells #[.slice A1 (I p).length c1, .slice A2 (I q).length c2] 24)).heap.size (w.alloc (.cells #[.slice A1 (I p).length c1, .slice A2 (I q).length c2] 24)) w') :=
    Lib.hid (width_any _ A0 c0 cs (some ⟨w.heap.size, 0, none⟩) 2 [p, q] (Kd.C_below h0 B1) k0 hcl (by simp [II]) (by simp) _ _ hW)
  obtain ⟨ys0, hys0⟩ := cl_of h0
  have HY := Lib.hid hys0
  have H0 := Lib.hid h0
  have H1 := Lib.hid h1
  have H2 := Lib.hid h2
  have HB1 := Lib.hid B1
  have HLC := Lib.hid hlc
  have HCNT := Lib.hid hcnt
  have HLP := Lib.hid hlp
  have HLQ := Lib.hid hlq
  have HI0 : Hid (∀ i, i < cs.length → ∃ a A' c' ci, Hid (cs.getD i [] = ci) ∧ A0 = some a ∧ (I ci).length ≤ c' ∧ (∀ W, Below w.heap.size w W → W.cell? (a.add i) = some (.slice A' (I ci).length c') ∧ RdB W A' ci)) := Lib.hid (fun i hi => by
    have hyi : ys0[i]? = some (ys0[i]'(by rw [HY.out.ylen, II_len]; exact hi)) := List.getElem?_eq_getElem _
    have hci : (II cs)[i]? = some (I (cs.getD i [])) := by
      unfold II
      rw [List.getElem?_map, List.getElem?_eq_getElem hi, getD_of hi]; rfl
    obtain ⟨a, hA, hc⟩ := HY.out.addr hyi
    obtain ⟨A', c', he, h3, h4⟩ := HY.out.el i _ _ hci hyi
    rw [he] at hc
    refine ⟨a, A', c', _, Lib.hid rfl, hA, h3, fun W hW => ⟨?_, Kd.C_below h4 hW⟩⟩
    have hlt : (a.add i).block < w.heap.size := World.block_lt_of_cell? w _ hc
    rw [hW.cell hlt]
    exact hc)
  clear hcl B1 hW hys0 h0 h1 h2 hs hlc hlp hlq hcnt HY
  have e1 : ((n : Int) == 0) = false := bF (by omega)
  have e2 : decide ((2 : Int) < (l : Int)) = false := decide_eq_false (by omega)
  have e63 : (II cs).length ≤ 9223372036854775807 := by rw [II_len]; omega
  go_enter Try.func20, Try.ntmps20
  go_wp2_with (fail)
  refine (HC.out).mono ?_
  rintro e w2 ⟨rfl, hb⟩
  have HB2 := Lib.hid (HB1.out.trans (hb.mono HB1.out.size))
  clear hb HC HB1
  go_wp2_with (fail)
  clear e1 e2
  go_loopg [6, 12, 37] (cs.length) (fun q' v6 v12 v37 wr => ∃ (i : Nat) (ys : List Value), i ≤ cs.length ∧ v37 = .int .i64 (i : Int) ∧ q' = cs.length - i ∧ Lp w wr cs i v6 ys v12)
  case atStart => exact ⟨0, [], by omega, rfl, rfl, ⟨by simpa using Cols.nil w2 w.heap.size, World.ownsRow_nil _ _ _ _, HB2.out⟩⟩
  case round =>
    obtain ⟨i, ys, hi, rfl, hq, hlp⟩ := hrel
    clear HB2
    have HQ := Lib.hid hq
    have HLPs := Lib.hid hlp
    clear hq hlp
    by_cases hlt : i < cs.length
    · obtain ⟨a, A', c', ci, HCI, rfl, hc', hrd⟩ := HI0.out i hlt
      obtain ⟨hcell, hrb⟩ := hrd wr HLPs.out.below
      have HRB := Lib.hid hrb
      have HC' := Lib.hid hc'
      have hiI : (i : Int) < ((II cs).length : Int) := by rw [II_len]; omega
      have hiN : i < (II cs).length := by rw [II_len]; omega
      have hcn : ci.length = 0 ∨ ci.length = n := by rw [← HCI.out]; exact HLC.out _ (getD_mem hlt)
      have HCN := Lib.hid hcn
      have hcix : (I ci).length ≤ 9223372036854775807 := by rw [I_len]; omega
      clear hrd hrb hc' hcn
      have CL := Lib.hid (clone_any wr A' c' ci HRB.out (by have := HCN.out; omega))
      go_wp2_with (fail)
      refine (CL.out).mono ?_
      rintro e w3 ⟨vy, rfl, hvy, hb3⟩
      have HB3 := Lib.hid (HLPs.out.below.trans (hb3.mono HLPs.out.below.size))
      have hc3 := HLPs.out.cols.below hb3
      have hg3 : OwnI w3 w.heap.size u12 (goneTo cs i) := own_below HLPs.out.gone hb3
      have hfr : ∀ (j : Nat) z k, ys[j]? = some z → z.ownBlock = some k → vy.ownBlock ≠ some k := fun j z k hz hk hk2 => by
        have hjl : j < (cs.take i).length := by have := (List.getElem?_eq_some_iff.1 hz).1; rw [HLPs.out.cols.len] at this; exact this
        have h5 := own_lt (HLPs.out.cols.el j z _ hz (List.getElem?_eq_getElem hjl)) k hk
        have h6 := (hvy.lt k hk2).1
        omega
      have hvy' : Own w3 w.heap.size vy ci := own_lower hvy HLPs.out.below.size
      obtain ⟨va, w4, hr4, hc4, hgr4⟩ := hc3.push hvy' hfr HB3.out.size (by rw [List.length_take]; omega)
      have hB4 := balloc w3 (.cells #[vy] 24)
      have hg4 : OwnI w4 w.heap.size u12 (goneTo cs i) := own_kept (own_below hg3 hB4) (Only.grown hgr4) (fun k hk hm => row_ne hg3 hc3.own (by decide) k hk (by simpa using hm))
      have HB4 := Lib.hid (Only.below (HB3.out.trans (hB4.mono HB3.out.size)) (Only.grown hgr4) (by have := HB3.out.size; simp; omega) (fun x hx => (hc3.own.lt x (by simpa using hx)).1))
      have HR4 := Lib.hid hr4
      have HC4 : Hid (Cols w4 w.heap.size va (ys ++ [vy]) (cs.take (i + 1))) := Lib.hid (by
        have e : cs.take (i + 1) = cs.take i ++ [ci] := by rw [List.take_add_one, List.getElem?_eq_getElem hlt, ← HCI.out, getD_of hlt]; rfl
        rw [e]; exact hc4)
      have HG4 := Lib.hid hg4
      obtain ⟨Ay, cy, rfl, _, _⟩ := hvy.form
      clear hvy hb3 hc3 hg3 hfr hvy' hr4 hc4 hgr4 hB4 hg4 CL HLPs HB3
      by_cases hz : ci.length = 0
      · have HGS : Hid (goneTo cs (i + 1) = goneTo cs i ++ [i]) := Lib.hid (by rw [goneTo_succ, if_pos (by rw [HCI.out]; exact hz)])
        obtain ⟨vg, w5, hr5, hg5, hgr5⟩ := HG4.out.push i HB4.out.size (by have := List.length_filter_le (fun j => (cs.getD j []).length == 0) (List.range i); unfold goneTo; simp at this ⊢; omega)
        have hB5 := balloc w4 (.cells #[.int .i64 (i : Int)] 3)
        have hc5 : Cols w5 w.heap.size va (ys ++ [_]) (cs.take (i + 1)) := ((HC4.out.below hB5).far (S := fun k => u12.ownBlock = some k) ⟨(Only.grown hgr5).size, fun k hk hn => (Only.grown hgr5).block k hk (fun hm => hn (by simpa using hm))⟩ (fun j y k hy hk hk2 => by
            have hjl : j < (cs.take (i + 1)).length := by have := (List.getElem?_eq_some_iff.1 hy).1; rw [HC4.out.len] at this; exact this
            exact row_ne (HC4.out.el j y _ hy (List.getElem?_eq_getElem hjl)) HG4.out (by decide) k hk hk2) (fun k hk hk2 => row_ne HC4.out.own HG4.out (by decide) k hk hk2))
        have HB5 := Lib.hid (Only.below (HB4.out.trans (hB5.mono HB4.out.size)) (Only.grown hgr5) (by have := HB4.out.size; simp; omega) (fun x hx => (HG4.out.lt x (by simpa using hx)).1))
        have HR5 := Lib.hid hr5
        have HC5 := Lib.hid hc5
        have HG5 := Lib.hid hg5
        clear hr5 hg5 hgr5 hB5 hc5 HB4 HC4 HG4
        have hq1 : (((I ci).length : Int) == 0) = true := bT (by rw [I_len]; omega)
        clear hz
        go_wp2_with (first
          | (at_builtin; refine wpList_append_ran rfl (.tmp 42) (.tmp 45) 22 rfl _ _ rfl rfl va w4 HR4.out ?_)
          | (at_builtin; refine wpList_append_ran rfl (.tmp 50) (.tmp 52) 53 rfl _ _ rfl rfl vg w5 HR5.out ?_))
        go_roundg (cs.length - (i + 1))
        case measure => have := HQ.out; omega
        case rel => exact ⟨i + 1, _, by omega, by go_num, rfl, ⟨HC5.out, by rw [HGS.out]; exact HG5.out, HB5.out⟩⟩
      · have HGS : Hid (goneTo cs (i + 1) = goneTo cs i) := Lib.hid (by rw [goneTo_succ, if_neg (by rw [HCI.out]; exact hz)])
        have hq1 : (((I ci).length : Int) == 0) = false := bF (by rw [I_len]; omega)
        clear hz
        go_wp2_with (first
          | (at_builtin; refine wpList_append_ran rfl (.tmp 42) (.tmp 45) 22 rfl _ _ rfl rfl va w4 HR4.out ?_))
        go_roundg (cs.length - (i + 1))
        case measure => have := HQ.out; omega
        case rel => exact ⟨i + 1, _, by omega, by go_num, rfl, ⟨HC4.out, by rw [HGS.out]; exact HG4.out, HB4.out⟩⟩
    · obtain rfl : i = cs.length := by omega
      have hc1 := HLPs.out.cols
      rw [List.take_length] at hc1
      have HCO := Lib.hid hc1
      have HGO : Hid (OwnI wr w.heap.size u12 (gone cs)) := Lib.hid HLPs.out.gone
      have HBO := Lib.hid HLPs.out.below
      have x1 : ¬ ((cs.length : Int) < ((II cs).length : Int)) := by rw [II_len]; omega
      have x2 : ¬ (cs.length < (II cs).length) := by rw [II_len]; omega
      clear hc1 HLPs hi hlt HI0
      have SM := Lib.hid (sums_any wr A0 c0 cs n (Kd.C_below H0.out HBO.out) k0 b0 (fun c hc => by rcases HLC.out c hc with h | h <;> omega) hn4 hl2)
      go_wp2_with (fail)
      refine (SM.out).mono ?_
      rintro e w3 ⟨v0, v1, rfl, hs0, hs1, hap, hb3⟩
      clear x1 x2
      have HC3 := Lib.hid (HCO.out.below hb3)
      have HG3 : Hid (OwnI w3 w.heap.size u12 (gone cs)) := Lib.hid (own_below HGO.out hb3)
      have HB3 := Lib.hid (HBO.out.trans (hb3.mono HBO.out.size))
      have HS3 : Hid (Own w3 w.heap.size v0 (tab n (wP cs))) := Lib.hid (own_lower hs0 HBO.out.size)
      have HT3 : Hid (Own w3 w.heap.size v1 (tab n (wQ cs))) := Lib.hid (own_lower hs1 HBO.out.size)
      have HAP := Lib.hid hap
      have HFY : Hid (∀ (j : Nat) y k, ys[j]? = some y → y.ownBlock = some k → v0.ownBlock ≠ some k ∧ v1.ownBlock ≠ some k) := Lib.hid (fun j y k hy hk => by
        have hjl : j < cs.length := by have := (List.getElem?_eq_some_iff.1 hy).1; rw [HCO.out.len] at this; exact this
        have h5 := own_lt (HCO.out.el j y _ hy (List.getElem?_eq_getElem hjl)) k hk
        exact ⟨fun h => by have := (hs0.lt k h).1; omega, fun h => by have := (hs1.lt k h).1; omega⟩)
      clear hs0 hs1 hap hb3 SM HCO HGO HBO
      have A1' := Lib.hid (add_any w w3 v0 n (wP cs) A1 c1 p 1 HB3.out HS3.out (H1.out.below HB3.out) k1 (far HS3.out H1.out) (fun k _ => wP_lt b0 k) b1 (by decide) (by rcases HLP.out with h | h <;> omega) hn4)
      go_wp2_with (fail)
      refine (A1'.out).mono ?_
      rintro e w4 ⟨rfl, hs4, hb4, hk4⟩
      have HS4 : Hid (Own w4 w.heap.size v0 (tab n (ss cs p))) := Lib.hid hs4
      have HT4 := Lib.hid (own_far HT3.out hk4 (fun k hk h => HAP.out k h.symm hk))
      have HC4 := Lib.hid (HC3.out.far hk4 (fun j y k hy hk h => (HFY.out j y k hy hk).1 h.symm) (fun k hk h => HC3.out.ne HS3.out k hk h))
      have HG4 : Hid (OwnI w4 w.heap.size u12 (gone cs)) := Lib.hid (own_move HG3.out (fun k hk => hk4.2 k (own_lt HG3.out k hk) (fun h => row_ne HG3.out HS3.out (by decide) k hk h.symm)))
      have HB4 := Lib.hid hb4
      clear hs4 hb4 hk4 A1' HS3 HT3 HC3 HG3 HB3
      have A2' := Lib.hid (add_any w w4 v1 n (wQ cs) A2 c2 q 1 HB4.out HT4.out (H2.out.below HB4.out) k2 (far HT4.out H2.out) (fun k _ => wQ_lt b0 k) b2 (by decide) (by rcases HLQ.out with h | h <;> omega) hn4)
      go_wp2_with (fail)
      refine (A2'.out).mono ?_
      rintro e w5 ⟨rfl, ht5, hb5, hk5⟩
      have HT5 : Hid (Own w5 w.heap.size v1 (tab n (tt cs q))) := Lib.hid ht5
      have HS5 := Lib.hid (own_far HS4.out hk5 (fun k hk h => HAP.out k hk h.symm))
      have HC5 := Lib.hid (HC4.out.far hk5 (fun j y k hy hk h => (HFY.out j y k hy hk).2 h.symm) (fun k hk h => HC4.out.ne HT4.out k hk h))
      have HG5 : Hid (OwnI w5 w.heap.size u12 (gone cs)) := Lib.hid (own_move HG4.out (fun k hk => hk5.2 k (own_lt HG4.out k hk) (fun h => row_ne HG4.out HT4.out (by decide) k hk h.symm)))
      have HB5 := Lib.hid hb5
      clear ht5 hb5 hk5 A2' HS4 HT4 HC4 HG4 HB4
      have hg2 : (gone cs).length ≤ 2 := by have := HCNT.out; omega
      generalize hG : gone cs = G at *
      have HGQ := Lib.hid hG
      clear hG
      obtain ⟨Ag, cg, hvg, _, _⟩ := own_form HG5.out
      rcases G with _ | ⟨g, _ | ⟨h, _ | ⟨h', G⟩⟩⟩
      · simp only [List.length_nil] at hvg
        subst hvg
        have HFE : Hid (F = cs) := Lib.hid (by rw [← HF.out]; unfold fill; rw [HGQ.out])
        go_upto_region 32 with (fail)
        have HCX : Hid (Cols w5 w.heap.size u6 ys F) := Lib.hid (by rw [HFE.out]; exact HC5.out)
        have HFB : Hid (Bytt F) := Lib.hid (by rw [← HF.out]; exact fill_bytt b0)
        have HFL : Hid (∀ c ∈ F, c.length ≤ n) := Lib.hid (by rw [← HF.out]; exact fill_le (fun c hc => by rcases HLC.out c hc with h | h <;> omega))
        have HFN : Hid (F.length = cs.length) := Lib.hid (by rw [← HF.out]; exact fill_len cs p q n)
        have CP := Lib.hid (clone_any w5 A1 c1 p (H1.out.below HB5.out) (by rcases HLP.out with h | h <;> omega))
        go_wp2_with (fail)
        refine (CP.out).mono ?_
        rintro e w21 ⟨v2, rfl, hv2, hb21⟩
        have HV2 := Lib.hid hv2
        have HB21 := Lib.hid (HB5.out.trans (hb21.mono HB5.out.size))
        have HC21 := Lib.hid (HCX.out.below hb21)
        have HL2 : Hid (∀ (j : Nat) y k, (ys)[j]? = some y → y.ownBlock = some k → v2.ownBlock ≠ some k) := Lib.hid (fun j y k hy hk h => by have a := (HCX.out.lt j y k hy hk).2; have b := (HV2.out.lt k h).1; omega)
        have HSZ1 := Lib.hid hb21.size
        clear hv2 hb21 CP
        have CQ := Lib.hid (clone_any w21 A2 c2 q (H2.out.below HB21.out) (by rcases HLQ.out with h | h <;> omega))
        go_wp2_with (fail)
        refine (CQ.out).mono ?_
        rintro e w22 ⟨v3, rfl, hv3, hb22⟩
        have HV3 := Lib.hid hv3
        have HB22 := Lib.hid (HB21.out.trans (hb22.mono HB21.out.size))
        have HC22 := Lib.hid (HC21.out.below hb22)
        have HV22 := Lib.hid (own_belowB HV2.out hb22)
        have HL3 : Hid (∀ (j : Nat) y k, (ys)[j]? = some y → y.ownBlock = some k → v3.ownBlock ≠ some k) := Lib.hid (fun j y k hy hk h => by have a := (HCX.out.lt j y k hy hk).2; have b := (HV3.out.lt k h).1; have c := HSZ1.out; omega)
        have HL23 : Hid (∀ k, v2.ownBlock = some k → v3.ownBlock ≠ some k) := Lib.hid (fun k hk h => by have a := (HV2.out.lt k hk).2; have b := (HV3.out.lt k h).1; omega)
        have HSZ2 := Lib.hid hb22.size
        clear hv3 hb22 CQ
        obtain ⟨Aa, ca, hea, hca, hrd⟩ := HC22.out.C (by rw [HFN.out]; omega)
        subst hea
        have HCA := Lib.hid hca
        have SM2 := Lib.hid (sums_any w22 Aa ca F n hrd hca HFB.out HFL.out hn4 (by rw [HFN.out]; exact hl2))
        clear hca hrd
        go_wp2_with (fail)
        refine (SM2.out).mono ?_
        rintro e w23 ⟨v4, v5, rfl, hv4, hv5, hap, hb23⟩
        have HV4 := Lib.hid hv4
        have HV5 := Lib.hid hv5
        have HAP2 := Lib.hid hap
        have HB23 := Lib.hid (HB22.out.trans (hb23.mono HB22.out.size))
        have HC23 := Lib.hid (HC22.out.below hb23)
        have HV23 := Lib.hid (own_belowB HV22.out hb23)
        have HV33 := Lib.hid (own_belowB HV3.out hb23)
        have HLN : Hid (∀ k, (w22.heap.size ≤ k) → (∀ (j : Nat) y, (ys)[j]? = some y → y.ownBlock ≠ some k) ∧ v2.ownBlock ≠ some k ∧ v3.ownBlock ≠ some k) := Lib.hid (fun k hk => ⟨fun j y hy h => by have a := (HCX.out.lt j y k hy h).2; have b := HSZ1.out; have c := HSZ2.out; omega, fun h => by have a := (HV2.out.lt k h).2; have c := HSZ2.out; omega, fun h => by have a := (HV3.out.lt k h).2; omega⟩)
        clear hv4 hv5 hap hb23 SM2
        have bx : w.heap.size ≤ w21.heap.size ∧ w.heap.size ≤ w22.heap.size ∧ w.heap.size ≤ w5.heap.size := ⟨HB21.out.size, HB22.out.size, HB5.out.size⟩
        have HBX := Lib.hid bx
        clear bx
        by_cases hp0 : p.length = 0
        · have q1 : (((I p).length : Int) == 0) = true := bT (by rw [I_len]; omega)
          have HP0 := Lib.hid hp0
          clear hp0
          by_cases hq0 : q.length = 0
          · have q2 : (((I q).length : Int) == 0) = true := bT (by rw [I_len]; omega)
            have HQ0 := Lib.hid hq0
            clear hq0
            go_wp2_with (fail)
            refine bodyPost_ret (results_4 rfl _ _) rfl ?_
            refine ⟨_, v4, v5, ys, by rw [← HR.out]; rfl, by rw [← HR.out]; exact HC23.out, ?_, ?_, fun j y k hy hk => ⟨fun h => (HLN.out k (HV4.out.lt k h).1).1 j y hy hk, fun h => (HLN.out k (HV5.out.lt k h).1).1 j y hy hk⟩, fun k hk h => HAP2.out k hk h, HB23.out⟩
            · rw [← HR.out]; simp only [if_pos HP0.out]; exact own_lower HV4.out HBX.out.2.1
            · rw [← HR.out]; simp only [if_pos HQ0.out]; exact own_lower HV5.out HBX.out.2.1
          · have q2 : (((I q).length : Int) == 0) = false := bF (by rw [I_len]; omega)
            have HQ0 := Lib.hid hq0
            clear hq0
            go_wp2_with (fail)
            refine bodyPost_ret (results_4 rfl _ _) rfl ?_
            refine ⟨_, v4, v3, ys, by rw [← HR.out]; rfl, by rw [← HR.out]; exact HC23.out, ?_, ?_, fun j y k hy hk => ⟨fun h => (HLN.out k (HV4.out.lt k h).1).1 j y hy hk, HL3.out j y k hy hk⟩, fun k hk h => (HLN.out k (HV4.out.lt k hk).1).2.2 h, HB23.out⟩
            · rw [← HR.out]; simp only [if_pos HP0.out]; exact own_lower HV4.out HBX.out.2.1
            · rw [← HR.out]; simp only [if_neg HQ0.out]; exact own_lower HV33.out HBX.out.1
        · have q1 : (((I p).length : Int) == 0) = false := bF (by rw [I_len]; omega)
          have HP0 := Lib.hid hp0
          clear hp0
          by_cases hq0 : q.length = 0
          · have q2 : (((I q).length : Int) == 0) = true := bT (by rw [I_len]; omega)
            have HQ0 := Lib.hid hq0
            clear hq0
            go_wp2_with (fail)
            refine bodyPost_ret (results_4 rfl _ _) rfl ?_
            refine ⟨_, v2, v5, ys, by rw [← HR.out]; rfl, by rw [← HR.out]; exact HC23.out, ?_, ?_, fun j y k hy hk => ⟨HL2.out j y k hy hk, fun h => (HLN.out k (HV5.out.lt k h).1).1 j y hy hk⟩, fun k hk h => (HLN.out k (HV5.out.lt k h).1).2.1 hk, HB23.out⟩
            · rw [← HR.out]; simp only [if_neg HP0.out]; exact own_lower HV23.out HBX.out.2.2
            · rw [← HR.out]; simp only [if_pos HQ0.out]; exact own_lower HV5.out HBX.out.2.1
          · have q2 : (((I q).length : Int) == 0) = false := bF (by rw [I_len]; omega)
            have HQ0 := Lib.hid hq0
            clear hq0
            go_wp2_with (fail)
            refine bodyPost_ret (results_4 rfl _ _) rfl ?_
            refine ⟨_, v2, v3, ys, by rw [← HR.out]; rfl, by rw [← HR.out]; exact HC23.out, ?_, ?_, fun j y k hy hk => ⟨HL2.out j y k hy hk, HL3.out j y k hy hk⟩, fun k hk h => HL23.out k hk h, HB23.out⟩
            · rw [← HR.out]; simp only [if_neg HP0.out]; exact own_lower HV23.out HBX.out.2.2
            · rw [← HR.out]; simp only [if_neg HQ0.out]; exact own_lower HV33.out HBX.out.1
      · simp only [List.length_cons, List.length_nil, Nat.zero_add] at hvg
        subst hvg
        have hgm : g < cs.length := by
          have hm : g ∈ gone cs := by rw [HGQ.out]; exact List.mem_cons_self
          exact (goneTo_lt hm).1
        have hgI : (g : Int) < (cs.length : Int) := by omega
        obtain ⟨rg, rfl, _, _⟩ := own_addr HG5.out (by simp)
        have hcg : w5.cell? ⟨rg, 0, none⟩ = some (.int .i64 (g : Int)) := (own_cell HG5.out (j := 0) (by simp)).trans rfl
        obtain ⟨Aa, ca, hea, _, _⟩ := own_form HC5.out.own
        subst hea
        obtain ⟨ra, rfl, _, _⟩ := own_addr HC5.out.own (by omega)
        by_cases hp0 : p.length = 0
        · have HP00 := Lib.hid hp0
          have hx1 : ¬ ((0 : Int) < ((I p).length : Int)) := by rw [I_len]; omega
          have hx2 : ¬ (0 < (I p).length) := by rw [I_len]; omega
          have HFE : Hid (F = cs.set g (tab n (fun k => Math.mul (Math.inv (Math.e g)) (tt cs q k)))) := Lib.hid (by rw [← HF.out]; unfold fill; rw [HGQ.out]; simp only [if_pos HP00.out])
          clear hp0
          have EX := Lib.hid (exp_any g w5)
          go_wp2_with (fail)
          refine (EX.out).mono ?_
          rintro e w6 ⟨rfl, hb6⟩
          have IV := Lib.hid (inv_any (Math.e g) (Math.e_lt g) (Math.e_ne g) w6)
          go_wp2_with (fail)
          refine (IV.out).mono ?_
          rintro e w7 ⟨rfl, hb7⟩
          clear EX IV hx1 hx2
          have hb57 : Below w5.heap.size w5 w7 := hb6.trans (hb7.mono hb6.size)
          have hmk := mk_run n hn4
          have hox := mk_own n hn4 w7 w.heap.size (by have := HB5.out.size; have := hb57.size; omega)
          have hb8 := balloc w7 (.cells (u8n (tab n fun _ => 0)).toArray 5)
          have hb58 : Below w5.heap.size w5 (w7.alloc (.cells (u8n (tab n fun _ => 0)).toArray 5)) := hb57.trans (hb8.mono hb57.size)
          have HX8 := Lib.hid hox
          have HC8 := Lib.hid (HC5.out.below hb58)
          have HT8 := Lib.hid (own_belowB HT5.out hb58)
          have HG8 : Hid (OwnI (w7.alloc (.cells (u8n (tab n fun _ => 0)).toArray 5)) w.heap.size (.slice (some ⟨rg, 0, none⟩) 1 cg) [g]) := Lib.hid (own_below HG5.out hb58)
          have HB8 := Lib.hid (HB5.out.trans (hb58.mono HB5.out.size))
          have HNW : Hid (w5.heap.size ≤ w7.heap.size) := Lib.hid hb57.size
          clear hb6 hb7 hb57 hox hb8 hb58
          generalize hz8 : (u8n (tab n fun _ => 0)).toArray = Z8 at *
          clear hz8
          obtain ⟨At, ct, het, hct, hrt⟩ := HT8.out.form
          have hxt : ∀ a, At = some a → 0 < (tab n (tt cs q)).length → (Value.slice (some ⟨w7.heap.size, 0, none⟩) n n).ownBlock ≠ some a.block := by
            intro a ha _ h
            have h6 : (Value.slice At (I (tab n (tt cs q))).length ct).ownBlock = some a.block := by rw [ha]; rfl
            rw [← het] at h6
            have h8 := own_lt HT5.out a.block h6
            have h9 : w7.heap.size = a.block := by simpa [Value.ownBlock] using h
            have := HNW.out
            omega
          subst het
          have AD := Lib.hid (add_any w (w7.alloc (.cells Z8 5)) (.slice (some ⟨w7.heap.size, 0, none⟩) n n) n (fun _ => 0) At ct (tab n (tt cs q)) (Math.inv (Math.e g)) HB8.out HX8.out hrt hct hxt (fun _ _ => by decide) (tab_byt fun k _ => tt_lt b0 k) (Math.inv_lt (Math.e_lt g)) (by rw [tab_len]; exact Nat.le_refl _) hn4)
          clear hct hrt hxt
          go_wp2_with (fail)
          refine (AD.out).mono ?_
          rintro e w9 ⟨rfl, hx9, hb9, hk9⟩
          have HX9 : Hid (Own w9 w.heap.size (.slice (some ⟨w7.heap.size, 0, none⟩) n n) (tab n (fun k => Math.mul (Math.inv (Math.e g)) (tt cs q k)))) := Lib.hid (by
            have e1 : tab n (fun k => 0 ^^^ Math.mul (Math.inv (Math.e g)) ((tab n (tt cs q)).getD k 0)) = tab n (fun k => Math.mul (Math.inv (Math.e g)) (tt cs q k)) := tab_congr fun k hk => by rw [tab_get hk, Nat.zero_xor]
            rw [← e1]; exact hx9)
          have HNY : Hid (∀ (j : Nat) y k, ys[j]? = some y → y.ownBlock = some k → (Value.slice (some ⟨w7.heap.size, 0, none⟩) n n).ownBlock ≠ some k) := Lib.hid (fun j y k hy hk h => by
            have h8 := (HC5.out.lt j y k hy hk).2
            have h9 : w7.heap.size = k := by simpa [Value.ownBlock] using h
            have := HNW.out
            omega)
          have HC9 := Lib.hid (HC8.out.far hk9 (fun j y k hy hk h => HNY.out j y k hy hk h.symm) (fun k hk h => HC8.out.ne HX8.out k hk h))
          have HB9 := Lib.hid hb9
          have hcg9 : w9.cell? ⟨rg, 0, none⟩ = some (.int .i64 (g : Int)) := by
            have h := own_move HG8.out (w1 := w9) (fun k hk => hk9.2 k (own_lt HG8.out k hk) (fun h => row_ne HG8.out HX8.out (by decide) k hk h.symm))
            exact (own_cell h (j := 0) (by simp)).trans rfl
          have hca9 : ∃ u, w9.cell? ⟨ra, g, none⟩ = some u := ⟨_, (own_cell HC9.out.own (j := g) (by omega)).trans (List.getElem?_eq_getElem (by rw [HC9.out.len]; exact hgm))⟩
          obtain ⟨u9, hca9⟩ := hca9
          have hfr9 : w9.frozen? ⟨ra, g, none⟩ = false := own_frozen HC9.out.own g
          have HCA9 := Lib.hid (HC9.out.set HX9.out hgm HNY.out)
          have HBA9 : Hid (∀ u, Below w.heap.size w (w9.setCell ⟨ra, g, none⟩ u)) := Lib.hid (fun u => Only.below HB9.out (Only.set (p := ⟨ra, g, none⟩) u) HB9.out.size (by have := (HC9.out.own.lt ra rfl).1; simp; omega))
          clear hx9 hb9 hk9 AD HC5 HG5 HB5 HS5 HT5 HX8 HC8 HT8 HG8 HB8 hcg hmk
          go_upto_region 32 with (fail)
          have HCX : Hid (Cols (w9.setCell ⟨ra, g, none⟩ (.slice (some ⟨w7.heap.size, 0, none⟩) n n)) w.heap.size (.slice (some ⟨ra, 0, none⟩) cs.length ca) (ys.set g (.slice (some ⟨w7.heap.size, 0, none⟩) n n)) F) := Lib.hid (by rw [HFE.out]; exact HCA9.out)
          have HBX9 := Lib.hid (HBA9.out (.slice (some ⟨w7.heap.size, 0, none⟩) n n))
          clear hcg9 hca9 hfr9 HCA9 HBA9
          generalize hys : ys.set g _ = ysn at *
          clear hys
          generalize w9.setCell _ _ = w10 at *
          clear HX9 HC9 HB9 HNY HNW HFY HAP
          generalize hu6 : Value.slice (some ⟨ra, 0, none⟩) cs.length ca = u6' at *
          clear hu6
          have HFB : Hid (Bytt F) := Lib.hid (by rw [← HF.out]; exact fill_bytt b0)
          have HFL : Hid (∀ c ∈ F, c.length ≤ n) := Lib.hid (by rw [← HF.out]; exact fill_le (fun c hc => by rcases HLC.out c hc with h | h <;> omega))
          have HFN : Hid (F.length = cs.length) := Lib.hid (by rw [← HF.out]; exact fill_len cs p q n)
          have CP := Lib.hid (clone_any w10 A1 c1 p (H1.out.below HBX9.out) (by rcases HLP.out with h | h <;> omega))
          go_wp2_with (fail)
          refine (CP.out).mono ?_
          rintro e w21 ⟨v2, rfl, hv2, hb21⟩
          have HV2 := Lib.hid hv2
          have HB21 := Lib.hid (HBX9.out.trans (hb21.mono HBX9.out.size))
          have HC21 := Lib.hid (HCX.out.below hb21)
          have HL2 : Hid (∀ (j : Nat) y k, (ysn)[j]? = some y → y.ownBlock = some k → v2.ownBlock ≠ some k) := Lib.hid (fun j y k hy hk h => by have a := (HCX.out.lt j y k hy hk).2; have b := (HV2.out.lt k h).1; omega)
          have HSZ1 := Lib.hid hb21.size
          clear hv2 hb21 CP
          have CQ := Lib.hid (clone_any w21 A2 c2 q (H2.out.below HB21.out) (by rcases HLQ.out with h | h <;> omega))
          go_wp2_with (fail)
          refine (CQ.out).mono ?_
          rintro e w22 ⟨v3, rfl, hv3, hb22⟩
          have HV3 := Lib.hid hv3
          have HB22 := Lib.hid (HB21.out.trans (hb22.mono HB21.out.size))
          have HC22 := Lib.hid (HC21.out.below hb22)
          have HV22 := Lib.hid (own_belowB HV2.out hb22)
          have HL3 : Hid (∀ (j : Nat) y k, (ysn)[j]? = some y → y.ownBlock = some k → v3.ownBlock ≠ some k) := Lib.hid (fun j y k hy hk h => by have a := (HCX.out.lt j y k hy hk).2; have b := (HV3.out.lt k h).1; have c := HSZ1.out; omega)
          have HL23 : Hid (∀ k, v2.ownBlock = some k → v3.ownBlock ≠ some k) := Lib.hid (fun k hk h => by have a := (HV2.out.lt k hk).2; have b := (HV3.out.lt k h).1; omega)
          have HSZ2 := Lib.hid hb22.size
          clear hv3 hb22 CQ
          obtain ⟨Aa, ca, hea, hca, hrd⟩ := HC22.out.C (by rw [HFN.out]; omega)
          subst hea
          have HCA := Lib.hid hca
          have SM2 := Lib.hid (sums_any w22 Aa ca F n hrd hca HFB.out HFL.out hn4 (by rw [HFN.out]; exact hl2))
          clear hca hrd
          go_wp2_with (fail)
          refine (SM2.out).mono ?_
          rintro e w23 ⟨v4, v5, rfl, hv4, hv5, hap, hb23⟩
          have HV4 := Lib.hid hv4
          have HV5 := Lib.hid hv5
          have HAP2 := Lib.hid hap
          have HB23 := Lib.hid (HB22.out.trans (hb23.mono HB22.out.size))
          have HC23 := Lib.hid (HC22.out.below hb23)
          have HV23 := Lib.hid (own_belowB HV22.out hb23)
          have HV33 := Lib.hid (own_belowB HV3.out hb23)
          have HLN : Hid (∀ k, (w22.heap.size ≤ k) → (∀ (j : Nat) y, (ysn)[j]? = some y → y.ownBlock ≠ some k) ∧ v2.ownBlock ≠ some k ∧ v3.ownBlock ≠ some k) := Lib.hid (fun k hk => ⟨fun j y hy h => by have a := (HCX.out.lt j y k hy h).2; have b := HSZ1.out; have c := HSZ2.out; omega, fun h => by have a := (HV2.out.lt k h).2; have c := HSZ2.out; omega, fun h => by have a := (HV3.out.lt k h).2; omega⟩)
          clear hv4 hv5 hap hb23 SM2
          have bx : w.heap.size ≤ w21.heap.size ∧ w.heap.size ≤ w22.heap.size ∧ w.heap.size ≤ w10.heap.size := ⟨HB21.out.size, HB22.out.size, HBX9.out.size⟩
          have HBX := Lib.hid bx
          clear bx
          by_cases hp0 : p.length = 0
          · have q1 : (((I p).length : Int) == 0) = true := bT (by rw [I_len]; omega)
            have HP0 := Lib.hid hp0
            clear hp0
            by_cases hq0 : q.length = 0
            · have q2 : (((I q).length : Int) == 0) = true := bT (by rw [I_len]; omega)
              have HQ0 := Lib.hid hq0
              clear hq0
              go_wp2_with (fail)
              refine bodyPost_ret (results_4 rfl _ _) rfl ?_
              refine ⟨_, v4, v5, ysn, by rw [← HR.out]; rfl, by rw [← HR.out]; exact HC23.out, ?_, ?_, fun j y k hy hk => ⟨fun h => (HLN.out k (HV4.out.lt k h).1).1 j y hy hk, fun h => (HLN.out k (HV5.out.lt k h).1).1 j y hy hk⟩, fun k hk h => HAP2.out k hk h, HB23.out⟩
              · rw [← HR.out]; simp only [if_pos HP0.out]; exact own_lower HV4.out HBX.out.2.1
              · rw [← HR.out]; simp only [if_pos HQ0.out]; exact own_lower HV5.out HBX.out.2.1
            · have q2 : (((I q).length : Int) == 0) = false := bF (by rw [I_len]; omega)
              have HQ0 := Lib.hid hq0
              clear hq0
              go_wp2_with (fail)
              refine bodyPost_ret (results_4 rfl _ _) rfl ?_
              refine ⟨_, v4, v3, ysn, by rw [← HR.out]; rfl, by rw [← HR.out]; exact HC23.out, ?_, ?_, fun j y k hy hk => ⟨fun h => (HLN.out k (HV4.out.lt k h).1).1 j y hy hk, HL3.out j y k hy hk⟩, fun k hk h => (HLN.out k (HV4.out.lt k hk).1).2.2 h, HB23.out⟩
              · rw [← HR.out]; simp only [if_pos HP0.out]; exact own_lower HV4.out HBX.out.2.1
              · rw [← HR.out]; simp only [if_neg HQ0.out]; exact own_lower HV33.out HBX.out.1
          · have q1 : (((I p).length : Int) == 0) = false := bF (by rw [I_len]; omega)
            have HP0 := Lib.hid hp0
            clear hp0
            by_cases hq0 : q.length = 0
            · have q2 : (((I q).length : Int) == 0) = true := bT (by rw [I_len]; omega)
              have HQ0 := Lib.hid hq0
              clear hq0
              go_wp2_with (fail)
              refine bodyPost_ret (results_4 rfl _ _) rfl ?_
              refine ⟨_, v2, v5, ysn, by rw [← HR.out]; rfl, by rw [← HR.out]; exact HC23.out, ?_, ?_, fun j y k hy hk => ⟨HL2.out j y k hy hk, fun h => (HLN.out k (HV5.out.lt k h).1).1 j y hy hk⟩, fun k hk h => (HLN.out k (HV5.out.lt k h).1).2.1 hk, HB23.out⟩
              · rw [← HR.out]; simp only [if_neg HP0.out]; exact own_lower HV23.out HBX.out.2.2
              · rw [← HR.out]; simp only [if_pos HQ0.out]; exact own_lower HV5.out HBX.out.2.1
            · have q2 : (((I q).length : Int) == 0) = false := bF (by rw [I_len]; omega)
              have HQ0 := Lib.hid hq0
              clear hq0
              go_wp2_with (fail)
              refine bodyPost_ret (results_4 rfl _ _) rfl ?_
              refine ⟨_, v2, v3, ysn, by rw [← HR.out]; rfl, by rw [← HR.out]; exact HC23.out, ?_, ?_, fun j y k hy hk => ⟨HL2.out j y k hy hk, HL3.out j y k hy hk⟩, fun k hk h => HL23.out k hk h, HB23.out⟩
              · rw [← HR.out]; simp only [if_neg HP0.out]; exact own_lower HV23.out HBX.out.2.2
              · rw [← HR.out]; simp only [if_neg HQ0.out]; exact own_lower HV33.out HBX.out.1
        · have HP00 := Lib.hid hp0
          have hx1 : (0 : Int) < ((I p).length : Int) := by rw [I_len]; omega
          have hx2 : 0 < (I p).length := by rw [I_len]; omega
          have HFE : Hid (F = cs.set g (tab n (ss cs p))) := Lib.hid (by rw [← HF.out]; unfold fill; rw [HGQ.out]; simp only [if_neg HP00.out])
          clear hp0
          obtain ⟨As, ct, hes, hct, hrt⟩ := HS5.out.form
          subst hes
          have HNY : Hid (∀ (j : Nat) y k, ys[j]? = some y → y.ownBlock = some k → (Value.slice As (I (tab n (ss cs p))).length ct).ownBlock ≠ some k) := Lib.hid (fun j y k hy hk => (HFY.out j y k hy hk).1)
          have hca9 : ∃ u, w5.cell? ⟨ra, g, none⟩ = some u := ⟨_, (own_cell HC5.out.own (j := g) (by omega)).trans (List.getElem?_eq_getElem (by rw [HC5.out.len]; exact hgm))⟩
          obtain ⟨u9, hca9⟩ := hca9
          have hfr9 : w5.frozen? ⟨ra, g, none⟩ = false := own_frozen HC5.out.own g
          have HCA9 := Lib.hid (HC5.out.set HS5.out hgm HNY.out)
          have HBA9 : Hid (∀ u, Below w.heap.size w (w5.setCell ⟨ra, g, none⟩ u)) := Lib.hid (fun u => Only.below HB5.out (Only.set (p := ⟨ra, g, none⟩) u) HB5.out.size (by have := (HC5.out.own.lt ra rfl).1; simp; omega))
          clear hct hrt
          go_upto_region 32 with (fail)
          have HCX : Hid (Cols (w5.setCell ⟨ra, g, none⟩ (.slice As (I (tab n (ss cs p))).length ct)) w.heap.size (.slice (some ⟨ra, 0, none⟩) cs.length ca) (ys.set g (.slice As (I (tab n (ss cs p))).length ct)) F) := Lib.hid (by rw [HFE.out]; exact HCA9.out)
          have HBX9 := Lib.hid (HBA9.out (.slice As (I (tab n (ss cs p))).length ct))
          clear hcg hca9 hfr9 HCA9 HBA9 hx1 hx2 HC5 HG5 HB5 HS5 HT5 HFY HNY HAP
          generalize hys : ys.set g _ = ysn at *
          clear hys
          generalize w5.setCell _ _ = w10 at *
          generalize hu6 : Value.slice (some ⟨ra, 0, none⟩) cs.length ca = u6' at *
          clear hu6
          have HFB : Hid (Bytt F) := Lib.hid (by rw [← HF.out]; exact fill_bytt b0)
          have HFL : Hid (∀ c ∈ F, c.length ≤ n) := Lib.hid (by rw [← HF.out]; exact fill_le (fun c hc => by rcases HLC.out c hc with h | h <;> omega))
          have HFN : Hid (F.length = cs.length) := Lib.hid (by rw [← HF.out]; exact fill_len cs p q n)
          have CP := Lib.hid (clone_any w10 A1 c1 p (H1.out.below HBX9.out) (by rcases HLP.out with h | h <;> omega))
          go_wp2_with (fail)
          refine (CP.out).mono ?_
          rintro e w21 ⟨v2, rfl, hv2, hb21⟩
          have HV2 := Lib.hid hv2
          have HB21 := Lib.hid (HBX9.out.trans (hb21.mono HBX9.out.size))
          have HC21 := Lib.hid (HCX.out.below hb21)
          have HL2 : Hid (∀ (j : Nat) y k, (ysn)[j]? = some y → y.ownBlock = some k → v2.ownBlock ≠ some k) := Lib.hid (fun j y k hy hk h => by have a := (HCX.out.lt j y k hy hk).2; have b := (HV2.out.lt k h).1; omega)
          have HSZ1 := Lib.hid hb21.size
          clear hv2 hb21 CP
          have CQ := Lib.hid (clone_any w21 A2 c2 q (H2.out.below HB21.out) (by rcases HLQ.out with h | h <;> omega))
          go_wp2_with (fail)
          refine (CQ.out).mono ?_
          rintro e w22 ⟨v3, rfl, hv3, hb22⟩
          have HV3 := Lib.hid hv3
          have HB22 := Lib.hid (HB21.out.trans (hb22.mono HB21.out.size))
          have HC22 := Lib.hid (HC21.out.below hb22)
          have HV22 := Lib.hid (own_belowB HV2.out hb22)
          have HL3 : Hid (∀ (j : Nat) y k, (ysn)[j]? = some y → y.ownBlock = some k → v3.ownBlock ≠ some k) := Lib.hid (fun j y k hy hk h => by have a := (HCX.out.lt j y k hy hk).2; have b := (HV3.out.lt k h).1; have c := HSZ1.out; omega)
          have HL23 : Hid (∀ k, v2.ownBlock = some k → v3.ownBlock ≠ some k) := Lib.hid (fun k hk h => by have a := (HV2.out.lt k hk).2; have b := (HV3.out.lt k h).1; omega)
          have HSZ2 := Lib.hid hb22.size
          clear hv3 hb22 CQ
          obtain ⟨Aa, ca, hea, hca, hrd⟩ := HC22.out.C (by rw [HFN.out]; omega)
          subst hea
          have HCA := Lib.hid hca
          have SM2 := Lib.hid (sums_any w22 Aa ca F n hrd hca HFB.out HFL.out hn4 (by rw [HFN.out]; exact hl2))
          clear hca hrd
          go_wp2_with (fail)
          refine (SM2.out).mono ?_
          rintro e w23 ⟨v4, v5, rfl, hv4, hv5, hap, hb23⟩
          have HV4 := Lib.hid hv4
          have HV5 := Lib.hid hv5
          have HAP2 := Lib.hid hap
          have HB23 := Lib.hid (HB22.out.trans (hb23.mono HB22.out.size))
          have HC23 := Lib.hid (HC22.out.below hb23)
          have HV23 := Lib.hid (own_belowB HV22.out hb23)
          have HV33 := Lib.hid (own_belowB HV3.out hb23)
          have HLN : Hid (∀ k, (w22.heap.size ≤ k) → (∀ (j : Nat) y, (ysn)[j]? = some y → y.ownBlock ≠ some k) ∧ v2.ownBlock ≠ some k ∧ v3.ownBlock ≠ some k) := Lib.hid (fun k hk => ⟨fun j y hy h => by have a := (HCX.out.lt j y k hy h).2; have b := HSZ1.out; have c := HSZ2.out; omega, fun h => by have a := (HV2.out.lt k h).2; have c := HSZ2.out; omega, fun h => by have a := (HV3.out.lt k h).2; omega⟩)
          clear hv4 hv5 hap hb23 SM2
          have bx : w.heap.size ≤ w21.heap.size ∧ w.heap.size ≤ w22.heap.size ∧ w.heap.size ≤ w10.heap.size := ⟨HB21.out.size, HB22.out.size, HBX9.out.size⟩
          have HBX := Lib.hid bx
          clear bx
          by_cases hp0 : p.length = 0
          · have q1 : (((I p).length : Int) == 0) = true := bT (by rw [I_len]; omega)
            have HP0 := Lib.hid hp0
            clear hp0
            by_cases hq0 : q.length = 0
            · have q2 : (((I q).length : Int) == 0) = true := bT (by rw [I_len]; omega)
              have HQ0 := Lib.hid hq0
              clear hq0
              go_wp2_with (fail)
              refine bodyPost_ret (results_4 rfl _ _) rfl ?_
              refine ⟨_, v4, v5, ysn, by rw [← HR.out]; rfl, by rw [← HR.out]; exact HC23.out, ?_, ?_, fun j y k hy hk => ⟨fun h => (HLN.out k (HV4.out.lt k h).1).1 j y hy hk, fun h => (HLN.out k (HV5.out.lt k h).1).1 j y hy hk⟩, fun k hk h => HAP2.out k hk h, HB23.out⟩
              · rw [← HR.out]; simp only [if_pos HP0.out]; exact own_lower HV4.out HBX.out.2.1
              · rw [← HR.out]; simp only [if_pos HQ0.out]; exact own_lower HV5.out HBX.out.2.1
            · have q2 : (((I q).length : Int) == 0) = false := bF (by rw [I_len]; omega)
              have HQ0 := Lib.hid hq0
              clear hq0
              go_wp2_with (fail)
              refine bodyPost_ret (results_4 rfl _ _) rfl ?_
              refine ⟨_, v4, v3, ysn, by rw [← HR.out]; rfl, by rw [← HR.out]; exact HC23.out, ?_, ?_, fun j y k hy hk => ⟨fun h => (HLN.out k (HV4.out.lt k h).1).1 j y hy hk, HL3.out j y k hy hk⟩, fun k hk h => (HLN.out k (HV4.out.lt k hk).1).2.2 h, HB23.out⟩
              · rw [← HR.out]; simp only [if_pos HP0.out]; exact own_lower HV4.out HBX.out.2.1
              · rw [← HR.out]; simp only [if_neg HQ0.out]; exact own_lower HV33.out HBX.out.1
          · have q1 : (((I p).length : Int) == 0) = false := bF (by rw [I_len]; omega)
            have HP0 := Lib.hid hp0
            clear hp0
            by_cases hq0 : q.length = 0
            · have q2 : (((I q).length : Int) == 0) = true := bT (by rw [I_len]; omega)
              have HQ0 := Lib.hid hq0
              clear hq0
              go_wp2_with (fail)
              refine bodyPost_ret (results_4 rfl _ _) rfl ?_
              refine ⟨_, v2, v5, ysn, by rw [← HR.out]; rfl, by rw [← HR.out]; exact HC23.out, ?_, ?_, fun j y k hy hk => ⟨HL2.out j y k hy hk, fun h => (HLN.out k (HV5.out.lt k h).1).1 j y hy hk⟩, fun k hk h => (HLN.out k (HV5.out.lt k h).1).2.1 hk, HB23.out⟩
              · rw [← HR.out]; simp only [if_neg HP0.out]; exact own_lower HV23.out HBX.out.2.2
              · rw [← HR.out]; simp only [if_pos HQ0.out]; exact own_lower HV5.out HBX.out.2.1
            · have q2 : (((I q).length : Int) == 0) = false := bF (by rw [I_len]; omega)
              have HQ0 := Lib.hid hq0
              clear hq0
              go_wp2_with (fail)
              refine bodyPost_ret (results_4 rfl _ _) rfl ?_
              refine ⟨_, v2, v3, ysn, by rw [← HR.out]; rfl, by rw [← HR.out]; exact HC23.out, ?_, ?_, fun j y k hy hk => ⟨HL2.out j y k hy hk, HL3.out j y k hy hk⟩, fun k hk h => HL23.out k hk h, HB23.out⟩
              · rw [← HR.out]; simp only [if_neg HP0.out]; exact own_lower HV23.out HBX.out.2.2
              · rw [← HR.out]; simp only [if_neg HQ0.out]; exact own_lower HV33.out HBX.out.1
      · simp only [List.length_cons, List.length_nil, Nat.zero_add, Nat.reduceAdd] at hvg
        subst hvg
        have hgh : g < cs.length ∧ h < cs.length ∧ g ≠ h := by
          have hm1 : g ∈ gone cs := by rw [HGQ.out]; simp
          have hm2 : h ∈ gone cs := by rw [HGQ.out]; simp
          have hs := gone_sorted cs
          rw [HGQ.out] at hs
          have := (List.pairwise_cons.1 hs).1 h (by simp)
          exact ⟨(goneTo_lt hm1).1, (goneTo_lt hm2).1, by omega⟩
        obtain ⟨hgm, hhm, hgne⟩ := hgh
        have hgI : (g : Int) < (cs.length : Int) := by omega
        have hhI : (h : Int) < (cs.length : Int) := by omega
        have HGNE := Lib.hid hgne
        clear hgne
        have hpl : p.length = n := by rcases HLP.out with h' | h'; (exfalso; have hx := HCNT.out; rw [if_pos h'] at hx; simp only [List.length_cons, List.length_nil] at hx; omega); exact h'
        have hql : q.length = n := by rcases HLQ.out with h' | h'; (exfalso; have hx := HCNT.out; rw [if_pos h'] at hx; simp only [List.length_cons, List.length_nil] at hx; omega); exact h'
        have HFE : Hid (F = (cs.set g (tab n fun k => Math.solX 1 1 (Math.e g) (Math.e h) (ss cs p k) (tt cs q k))).set h (tab n fun k => Math.solY 1 1 (Math.e g) (Math.e h) (ss cs p k) (tt cs q k))) := Lib.hid (by rw [← HF.out]; unfold fill; rw [HGQ.out])
        have HPL := Lib.hid hpl
        have HQL := Lib.hid hql
        clear hpl hql
        obtain ⟨rg, rfl, _, _⟩ := own_addr HG5.out (by simp)
        obtain ⟨Aa, ca, hea, _, _⟩ := own_form HC5.out.own
        subst hea
        obtain ⟨ra, rfl, _, _⟩ := own_addr HC5.out.own (by omega)
        obtain ⟨As, csn, hes, _, _⟩ := own_form HS5.out
        rw [tab_len] at hes
        subst hes
        obtain ⟨rs, rfl, _, _⟩ := own_addr HS5.out (by rw [tab_len]; omega)
        obtain ⟨At, ctn, het, _, _⟩ := own_form HT5.out
        rw [tab_len] at het
        subst het
        obtain ⟨rt, rfl, _, _⟩ := own_addr HT5.out (by rw [tab_len]; omega)
        have hmk := mk_run n hn4
        go_upto_region 25 with (fail)
        go_cut [20, 21] (fun v20 v21 wx => ∃ bx by_, Two w w5 wx n v20 v21 bx by_)
        case first =>
          as_aux_lemma =>
            have HTW := Lib.hid (two_mk w w5 n hn4 HB5.out.size)
            clear HFE HFY HAP HC5 HG5 HB5 HS5 HT5 HPL HQL HCNT HLC HLP HLQ H0 H1 H2 HF HR
            go_region
            all_goals
              go_wp2_with (fail)
              go_meet
              first
                | exact ⟨_, _, HTW.out.1⟩
                | exact ⟨_, _, HTW.out.2⟩
        case rest =>
          as_aux_lemma =>
            obtain ⟨bx, by_, htw⟩ := hcut
            obtain ⟨hex, hey, hox, hoy, hbne, hgx, hgy, hbt⟩ := htw
            subst hex hey
            have HC6 := Lib.hid (HC5.out.below hbt)
            have HG6 : Hid (OwnI _ w.heap.size (.slice (some ⟨rg, 0, none⟩) 2 cg) [g, h]) := Lib.hid (own_below HG5.out hbt)
            have HS6 := Lib.hid (own_belowB HS5.out hbt)
            have HT6 := Lib.hid (own_belowB HT5.out hbt)
            have HB6 := Lib.hid (HB5.out.trans (hbt.mono HB5.out.size))
            have HXN : Hid (bx ≠ by_ ∧ bx ≠ rs ∧ bx ≠ rt ∧ by_ ≠ rs ∧ by_ ≠ rt ∧ ∀ (j : Nat) y k, ys[j]? = some y → y.ownBlock = some k → bx ≠ k ∧ by_ ≠ k) := Lib.hid (by
              have a := (HS5.out.lt rs rfl).2
              have b := (HT5.out.lt rt rfl).2
              refine ⟨hbne, by omega, by omega, by omega, by omega, fun j y k hy hk => ?_⟩
              have c := (HC5.out.lt j y k hy hk).2
              exact ⟨by omega, by omega⟩)
            have HOX := Lib.hid hox
            have HOY := Lib.hid hoy
            clear hox hoy hbne hgx hgy hbt HC5 HG5 HS5 HT5 HB5 hmk
            generalize hX : (fun k => Math.solX 1 1 (Math.e g) (Math.e h) (ss cs p k) (tt cs q k)) = fX at *
            generalize hY : (fun k => Math.solY 1 1 (Math.e g) (Math.e h) (ss cs p k) (tt cs q k)) = fY at *
            have HFX : Hid (∀ k, Math.solX 1 1 (Math.e g) (Math.e h) (ss cs p k) (tt cs q k) = fX k) := Lib.hid (fun k => by rw [← hX])
            have HFY2 : Hid (∀ k, Math.solY 1 1 (Math.e g) (Math.e h) (ss cs p k) (tt cs q k) = fY k) := Lib.hid (fun k => by rw [← hY])
            clear hX hY
            go_wp2_with (fail)
            have HRN : Hid (Rnd w _ n bx by_ fX fY 0 0 ra cs.length ca ys cs rg cg g h rs csn rt ctn (ss cs p) (tt cs q)) := Lib.hid ⟨by rw [upto_zero]; rw [upto_zero] at HOX; exact HOX.out, by rw [upto_zero]; rw [upto_zero] at HOY; exact HOY.out, HC6.out, HG6.out, HS6.out, HT6.out, HB6.out, ⟨HXN.out.1, HXN.out.2.1, HXN.out.2.2.1, HXN.out.2.2.2.1, HXN.out.2.2.2.2.1⟩, HXN.out.2.2.2.2.2⟩
            clear HOX HOY HC6 HG6 HS6 HT6 HB6 HXN
            go_loopg [115] (n) (fun q' v115 wr => ∃ k : Nat, k ≤ n ∧ v115 = .int .i64 (k : Int) ∧ q' = n - k ∧ Rnd w wr n bx by_ fX fY k k ra cs.length ca ys cs rg cg g h rs csn rt ctn (ss cs p) (tt cs q))
            case atStart => exact ⟨0, by omega, rfl, rfl, HRN.out⟩
            case round =>
              obtain ⟨k, hk, rfl, hq, hrn⟩ := hrel
              clear HRN
              have HQ := Lib.hid hq
              have HRN := Lib.hid hrn
              clear hq hrn
              by_cases hlt : k < n
              · have hkI : (k : Int) < (n : Int) := by omega
                have EG := Lib.hid (fun W => exp_any g W)
                have EH := Lib.hid (fun W => exp_any h W)
                have SV := Lib.hid (fun W => solve_any (Math.e g) (Math.e h) (ss cs p k) (tt cs q k) (Math.e_lt g) (Math.e_lt h) (ss_lt b0 k) (tt_lt b0 k) (det_ne (by omega) (by omega) HGNE.out) W)
                rw [HFX.out, HFY2.out] at SV
                obtain ⟨cg0, cg1, csk, ctk⟩ := HRN.out.scell hlt
                go_upto_region 29 with (fail)
                have hS0 : wr.drew.cell? ⟨rg, 0, none⟩ = some (.int .i64 (g : Int)) ∧ wr.drew.cell? ⟨rg, 1, none⟩ = some (.int .i64 (h : Int)) ∧ wr.drew.cell? ⟨rs, k, none⟩ = some (.int .u8 ((ss cs p k : Nat) : Int)) ∧ wr.drew.cell? ⟨rt, k, none⟩ = some (.int .u8 ((tt cs q k : Nat) : Int)) := ⟨cg0, cg1, csk, ctk⟩
                have HBW := Lib.hid ((Below.refl wr.heap.size wr).drew)
                refine wp_region_held_drew (S := fun W => W.cell? ⟨rg, 0, none⟩ = some (.int .i64 (g : Int)) ∧ W.cell? ⟨rg, 1, none⟩ = some (.int .i64 (h : Int)) ∧ W.cell? ⟨rs, k, none⟩ = some (.int .u8 ((ss cs p k : Nat) : Int)) ∧ W.cell? ⟨rt, k, none⟩ = some (.int .u8 ((tt cs q k : Nat) : Int))) (by kernel_rfl) hS0 (fun hS => ?_)
                clear hS0
                refine wpAnyH_take (i := 0) (v := ?_) rfl (by kernel_rfl) (by kernel_rfl) (by kernel_rfl) (fun _ _ _ h => h) (Or.inl ⟨by rfl, ?_⟩) hS ?_
                rotate_left
                · intro w' hSw; go_simp; try rfl
                try simp only [Act.put, List.getElem_toArray, List.getElem_cons_succ, List.getElem_cons_zero, List.setIfInBounds_toArray, List.set_cons_zero, List.set_cons_succ]
                refine wpAnyH_take (i := 1) (v := ?_) rfl (by kernel_rfl) (by kernel_rfl) (by kernel_rfl) (fun _ _ _ h => h) (Or.inl ⟨by rfl, ?_⟩) hS ?_
                rotate_left
                · intro w' hSw; go_simp; try rfl
                try simp only [Act.put, List.getElem_toArray, List.getElem_cons_succ, List.getElem_cons_zero, List.setIfInBounds_toArray, List.set_cons_zero, List.set_cons_succ]
                refine wpAnyH_take (i := 2) (v := ?_) rfl (by kernel_rfl) (by kernel_rfl) (by kernel_rfl) (fun _ _ _ h => h) (Or.inl ⟨by rfl, ?_⟩) hS ?_
                rotate_left
                · intro w' hSw; go_simp; try rfl
                try simp only [Act.put, List.getElem_toArray, List.getElem_cons_succ, List.getElem_cons_zero, List.setIfInBounds_toArray, List.set_cons_zero, List.set_cons_succ]
                refine wpAnyH_take (i := 3) (v := ?_) rfl (by kernel_rfl) (by kernel_rfl) (by kernel_rfl) (fun _ _ _ h => h) (Or.inl ⟨by rfl, ?_⟩) hS ?_
                rotate_left
                · intro w' hSw; go_simp; try rfl
                try simp only [Act.put, List.getElem_toArray, List.getElem_cons_succ, List.getElem_cons_zero, List.setIfInBounds_toArray, List.set_cons_zero, List.set_cons_succ]
                refine wpAnyH_take (i := 4) (v := ?_) rfl (by kernel_rfl) (by kernel_rfl) (by kernel_rfl) (fun _ _ _ h => h) (Or.inl ⟨by rfl, ?_⟩) hS ?_
                rotate_left
                · intro w' hSw; go_simp; try rfl
                try simp only [Act.put, List.getElem_toArray, List.getElem_cons_succ, List.getElem_cons_zero, List.setIfInBounds_toArray, List.set_cons_zero, List.set_cons_succ]
                refine wpAnyH_take (i := 5) (v := ?_) rfl (by kernel_rfl) (by kernel_rfl) (by kernel_rfl) (fun _ _ _ h => h) (Or.inl ⟨by rfl, ?_⟩) hS ?_
                rotate_left
                · intro w' hSw; go_simp; try rfl
                try simp only [Act.put, List.getElem_toArray, List.getElem_cons_succ, List.getElem_cons_zero, List.setIfInBounds_toArray, List.set_cons_zero, List.set_cons_succ]
                refine wpAnyH_take (i := 6) (v := ?_) rfl (by kernel_rfl) (by kernel_rfl) (by kernel_rfl) (fun _ _ _ h => h) (Or.inl ⟨by rfl, ?_⟩) hS ?_
                rotate_left
                · intro w' hSw; obtain ⟨s1, s2, s3, s4⟩ := hSw; go_simp; try rfl
                try simp only [Act.put, List.getElem_toArray, List.getElem_cons_succ, List.getElem_cons_zero, List.setIfInBounds_toArray, List.set_cons_zero, List.set_cons_succ]
                refine wpAnyH_take (i := 8) (v := ?_) rfl (by kernel_rfl) (by kernel_rfl) (by kernel_rfl) (fun _ _ _ h => h) (Or.inl ⟨by rfl, ?_⟩) hS ?_
                rotate_left
                · intro w' hSw; go_simp; try rfl
                try simp only [Act.put, List.getElem_toArray, List.getElem_cons_succ, List.getElem_cons_zero, List.setIfInBounds_toArray, List.set_cons_zero, List.set_cons_succ]
                refine wpAnyH_take (i := 9) (v := ?_) rfl (by kernel_rfl) (by kernel_rfl) (by kernel_rfl) (fun _ _ _ h => h) (Or.inl ⟨by rfl, ?_⟩) hS ?_
                rotate_left
                · intro w' hSw; go_simp; try rfl
                try simp only [Act.put, List.getElem_toArray, List.getElem_cons_succ, List.getElem_cons_zero, List.setIfInBounds_toArray, List.set_cons_zero, List.set_cons_succ]
                refine wpAnyH_take (i := 10) (v := ?_) rfl (by kernel_rfl) (by kernel_rfl) (by kernel_rfl) (fun _ _ _ h => h) (Or.inl ⟨by rfl, ?_⟩) hS ?_
                rotate_left
                · intro w' hSw; obtain ⟨s1, s2, s3, s4⟩ := hSw; go_simp; try rfl
                try simp only [Act.put, List.getElem_toArray, List.getElem_cons_succ, List.getElem_cons_zero, List.setIfInBounds_toArray, List.set_cons_zero, List.set_cons_succ]
                refine wpAnyH_take (i := 12) (v := ?_) rfl (by kernel_rfl) (by kernel_rfl) (by kernel_rfl) (fun _ _ _ h => h) (Or.inl ⟨by rfl, ?_⟩) hS ?_
                rotate_left
                · intro w' hSw; go_simp; try rfl
                try simp only [Act.put, List.getElem_toArray, List.getElem_cons_succ, List.getElem_cons_zero, List.setIfInBounds_toArray, List.set_cons_zero, List.set_cons_succ]
                refine wpAnyH_take (i := 13) (v := ?_) rfl (by kernel_rfl) (by kernel_rfl) (by kernel_rfl) (fun _ _ _ h => h) (Or.inl ⟨by rfl, ?_⟩) hS ?_
                rotate_left
                · intro w' hSw; go_simp; try rfl
                try simp only [Act.put, List.getElem_toArray, List.getElem_cons_succ, List.getElem_cons_zero, List.setIfInBounds_toArray, List.set_cons_zero, List.set_cons_succ]
                refine wpAnyH_take (i := 14) (v := ?_) rfl (by kernel_rfl) (by kernel_rfl) (by kernel_rfl) (fun _ _ _ h => h) (Or.inl ⟨by rfl, ?_⟩) hS ?_
                rotate_left
                · intro w' hSw; go_simp; try rfl
                try simp only [Act.put, List.getElem_toArray, List.getElem_cons_succ, List.getElem_cons_zero, List.setIfInBounds_toArray, List.set_cons_zero, List.set_cons_succ]
                refine wpAnyH_take (i := 15) (v := ?_) rfl (by kernel_rfl) (by kernel_rfl) (by kernel_rfl) (fun _ _ _ h => h) (Or.inl ⟨by rfl, ?_⟩) hS ?_
                rotate_left
                · intro w' hSw; obtain ⟨s1, s2, s3, s4⟩ := hSw; go_simp; try rfl
                try simp only [Act.put, List.getElem_toArray, List.getElem_cons_succ, List.getElem_cons_zero, List.setIfInBounds_toArray, List.set_cons_zero, List.set_cons_succ]
                refine wpAnyH_take (i := 16) (v := ?_) rfl (by kernel_rfl) (by kernel_rfl) (by kernel_rfl) (fun _ _ _ h => h) (Or.inl ⟨by rfl, ?_⟩) hS ?_
                rotate_left
                · intro w' hSw; go_simp; try rfl
                try simp only [Act.put, List.getElem_toArray, List.getElem_cons_succ, List.getElem_cons_zero, List.setIfInBounds_toArray, List.set_cons_zero, List.set_cons_succ]
                refine wpAnyH_take (i := 17) (v := ?_) rfl (by kernel_rfl) (by kernel_rfl) (by kernel_rfl) (fun _ _ _ h => h) (Or.inl ⟨by rfl, ?_⟩) hS ?_
                rotate_left
                · intro w' hSw; go_simp; try rfl
                try simp only [Act.put, List.getElem_toArray, List.getElem_cons_succ, List.getElem_cons_zero, List.setIfInBounds_toArray, List.set_cons_zero, List.set_cons_succ]
                refine wpAnyH_take (i := 18) (v := ?_) rfl (by kernel_rfl) (by kernel_rfl) (by kernel_rfl) (fun _ _ _ h => h) (Or.inl ⟨by rfl, ?_⟩) hS ?_
                rotate_left
                · intro w' hSw; go_simp; try rfl
                try simp only [Act.put, List.getElem_toArray, List.getElem_cons_succ, List.getElem_cons_zero, List.setIfInBounds_toArray, List.set_cons_zero, List.set_cons_succ]
                refine wpAnyH_take (i := 19) (v := ?_) rfl (by kernel_rfl) (by kernel_rfl) (by kernel_rfl) (fun _ _ _ h => h) (Or.inl ⟨by rfl, ?_⟩) hS ?_
                rotate_left
                · intro w' hSw; obtain ⟨s1, s2, s3, s4⟩ := hSw; go_simp; try rfl
                try simp only [Act.put, List.getElem_toArray, List.getElem_cons_succ, List.getElem_cons_zero, List.setIfInBounds_toArray, List.set_cons_zero, List.set_cons_succ]
                refine wpAnyH_ready (rs := [7]) (by kernel_rfl) (by simp) ?_
                refine AllReadyH.cons rfl (fun K hK => ?_) AllReadyH.nil
                go_simp
                refine (EG.out _).mono ?_
                rintro e wa ⟨rfl, hbb⟩
                have hT : wa.cell? ⟨rg, 0, none⟩ = some (.int .i64 (g : Int)) ∧ wa.cell? ⟨rg, 1, none⟩ = some (.int .i64 (h : Int)) ∧ wa.cell? ⟨rs, k, none⟩ = some (.int .u8 ((ss cs p k : Nat) : Int)) ∧ wa.cell? ⟨rt, k, none⟩ = some (.int .u8 ((tt cs q k : Nat) : Int)) := ⟨cell_below hS.1 hbb, cell_below hS.2.1 hbb, cell_below hS.2.2.1 hbb, cell_below hS.2.2.2 hbb⟩
                have HBW := Lib.hid (HBW.out.trans (hbb.mono HBW.out.size))
                go_wp2_with (fail)
                refine hK.out _ _ hT (fun hU => ?_)
                clear hK K hU hS hbb
                have hS := hT
                clear hT
                try simp only [Act.put, List.getElem_toArray, List.getElem_cons_succ, List.getElem_cons_zero, List.setIfInBounds_toArray, List.set_cons_zero, List.set_cons_succ]
                refine wpAnyH_ready (rs := [11]) (by kernel_rfl) (by simp) ?_
                refine AllReadyH.cons rfl (fun K hK => ?_) AllReadyH.nil
                go_simp
                refine (EH.out _).mono ?_
                rintro e wb ⟨rfl, hbb⟩
                have hT : wb.cell? ⟨rg, 0, none⟩ = some (.int .i64 (g : Int)) ∧ wb.cell? ⟨rg, 1, none⟩ = some (.int .i64 (h : Int)) ∧ wb.cell? ⟨rs, k, none⟩ = some (.int .u8 ((ss cs p k : Nat) : Int)) ∧ wb.cell? ⟨rt, k, none⟩ = some (.int .u8 ((tt cs q k : Nat) : Int)) := ⟨cell_below hS.1 hbb, cell_below hS.2.1 hbb, cell_below hS.2.2.1 hbb, cell_below hS.2.2.2 hbb⟩
                have HBW := Lib.hid (HBW.out.trans (hbb.mono HBW.out.size))
                go_wp2_with (fail)
                refine hK.out _ _ hT (fun hU => ?_)
                clear hK K hU hS hbb
                have hS := hT
                clear hT
                try simp only [Act.put, List.getElem_toArray, List.getElem_cons_succ, List.getElem_cons_zero, List.setIfInBounds_toArray, List.set_cons_zero, List.set_cons_succ]
                refine wpAnyH_ready (rs := [20]) (by kernel_rfl) (by simp) ?_
                refine AllReadyH.cons rfl (fun K hK => ?_) AllReadyH.nil
                go_simp
                refine (SV.out _).mono ?_
                rintro e wc ⟨rfl, hbb⟩
                have hT : wc.cell? ⟨rg, 0, none⟩ = some (.int .i64 (g : Int)) ∧ wc.cell? ⟨rg, 1, none⟩ = some (.int .i64 (h : Int)) ∧ wc.cell? ⟨rs, k, none⟩ = some (.int .u8 ((ss cs p k : Nat) : Int)) ∧ wc.cell? ⟨rt, k, none⟩ = some (.int .u8 ((tt cs q k : Nat) : Int)) := ⟨cell_below hS.1 hbb, cell_below hS.2.1 hbb, cell_below hS.2.2.1 hbb, cell_below hS.2.2.2 hbb⟩
                have HBW := Lib.hid (HBW.out.trans (hbb.mono HBW.out.size))
                go_wp2_with (fail)
                refine hK.out _ _ hT (fun hU => ?_)
                clear hK K hU hS hbb
                have hS := hT
                clear hT
                try simp only [Act.put, List.getElem_toArray, List.getElem_cons_succ, List.getElem_cons_zero, List.setIfInBounds_toArray, List.set_cons_zero, List.set_cons_succ]
                refine wpAnyH_take (i := 21) (v := ?_) rfl (by kernel_rfl) (by kernel_rfl) (by kernel_rfl) (fun _ _ _ h => h) (Or.inl ⟨by rfl, ?_⟩) hS ?_
                rotate_left
                · intro w' hSw; go_simp; try rfl
                try simp only [Act.put, List.getElem_toArray, List.getElem_cons_succ, List.getElem_cons_zero, List.setIfInBounds_toArray, List.set_cons_zero, List.set_cons_succ]
                refine wpAnyH_take (i := 22) (v := ?_) rfl (by kernel_rfl) (by kernel_rfl) (by kernel_rfl) (fun _ _ _ h => h) (Or.inl ⟨by rfl, ?_⟩) hS ?_
                rotate_left
                · intro w' hSw; go_simp; try rfl
                try simp only [Act.put, List.getElem_toArray, List.getElem_cons_succ, List.getElem_cons_zero, List.setIfInBounds_toArray, List.set_cons_zero, List.set_cons_succ]
                refine wpAnyH_take (i := 23) (v := ?_) rfl (by kernel_rfl) (by kernel_rfl) (by kernel_rfl) (fun _ _ _ h => h) (Or.inl ⟨by rfl, ?_⟩) hS ?_
                rotate_left
                · intro w' hSw; go_simp; try rfl
                try simp only [Act.put, List.getElem_toArray, List.getElem_cons_succ, List.getElem_cons_zero, List.setIfInBounds_toArray, List.set_cons_zero, List.set_cons_succ]
                refine wpAnyH_take (i := 24) (v := ?_) rfl (by kernel_rfl) (by kernel_rfl) (by kernel_rfl) (fun _ _ _ h => h) (Or.inl ⟨by rfl, ?_⟩) hS ?_
                rotate_left
                · intro w' hSw; go_simp; try rfl
                try simp only [Act.put, List.getElem_toArray, List.getElem_cons_succ, List.getElem_cons_zero, List.setIfInBounds_toArray, List.set_cons_zero, List.set_cons_succ]
                refine wpAnyH_take (i := 25) (v := ?_) rfl (by kernel_rfl) (by kernel_rfl) (by kernel_rfl) (fun _ _ _ h => h) (Or.inl ⟨by rfl, ?_⟩) hS ?_
                rotate_left
                · intro w' hSw; go_simp; try rfl
                try simp only [Act.put, List.getElem_toArray, List.getElem_cons_succ, List.getElem_cons_zero, List.setIfInBounds_toArray, List.set_cons_zero, List.set_cons_succ]
                have HR7 := Lib.hid (HRN.out.below HBW.out)
                obtain ⟨u8, hcx⟩ := HR7.out.cx hlt
                have hfx := own_frozen HR7.out.ox k
                have HR8 := Lib.hid HR7.out.x
                have hT := HR8.out.scell hlt
                refine wpAnyH_ready (rs := [26]) (by kernel_rfl) (by simp) ?_
                refine AllReadyH.cons rfl (fun K hK => ?_) AllReadyH.nil
                go_simp
                refine hK.out _ _ hT (fun hU => ?_)
                clear hK K hU hS hcx hfx u8
                have hS := hT
                clear hT
                try simp only [Act.put, List.getElem_toArray, List.getElem_cons_succ, List.getElem_cons_zero, List.setIfInBounds_toArray, List.set_cons_zero, List.set_cons_succ]
                refine wpAnyH_take (i := 27) (v := ?_) rfl (by kernel_rfl) (by kernel_rfl) (by kernel_rfl) (fun _ _ _ h => h) (Or.inl ⟨by rfl, ?_⟩) hS ?_
                rotate_left
                · intro w' hSw; go_simp; try rfl
                try simp only [Act.put, List.getElem_toArray, List.getElem_cons_succ, List.getElem_cons_zero, List.setIfInBounds_toArray, List.set_cons_zero, List.set_cons_succ]
                obtain ⟨u9, hcy⟩ := HR8.out.cy hlt
                have hfy := own_frozen HR8.out.oy k
                have HR9 := Lib.hid HR8.out.y
                have hT := HR9.out.scell hlt
                refine wpAnyH_ready (rs := [28]) (by kernel_rfl) (by simp) ?_
                refine AllReadyH.cons rfl (fun K hK => ?_) AllReadyH.nil
                go_simp
                refine hK.out _ _ hT (fun hU => ?_)
                clear hK K hU hS hcy hfy u9 hT
                try simp only [Act.put, List.getElem_toArray, List.getElem_cons_succ, List.getElem_cons_zero, List.setIfInBounds_toArray, List.set_cons_zero, List.set_cons_succ]
                refine wpAnyH_done (by kernel_rfl) ?_ _
                go_wp2_with (fail)
                go_roundg (n - (k + 1))
                case measure => have := HQ.out; omega
                case rel => exact ⟨k + 1, by omega, by go_num, rfl, HR9.out⟩
              · obtain rfl : n = k := by omega
                have HFN2 := Lib.hid ((HRN.out.below ((Below.refl wr.heap.size wr).drew)).fin hgm hhm)
                clear hlt HQ
                go_upto_region 31 with (fail)
                refine wp_region_held_drew (S := fun W => W.cell? ⟨rg, 0, none⟩ = some (.int .i64 (g : Int)) ∧ W.cell? ⟨rg, 1, none⟩ = some (.int .i64 (h : Int))) (by kernel_rfl) HFN2.out.cg (fun hS => ?_)
                clear HRN
                generalize hwd : wr.drew = wd at HFN2 hS ⊢
                clear hwd
                refine wpAnyH_take (i := 0) (v := ?_) rfl (by kernel_rfl) (by kernel_rfl) (by kernel_rfl) (fun _ _ _ h => h) (Or.inl ⟨by rfl, ?_⟩) hS ?_
                rotate_left
                · intro w' hSw; go_simp; try rfl
                try simp only [Act.put, List.getElem_toArray, List.getElem_cons_succ, List.getElem_cons_zero, List.setIfInBounds_toArray, List.set_cons_zero, List.set_cons_succ]
                refine wpAnyH_take (i := 1) (v := ?_) rfl (by kernel_rfl) (by kernel_rfl) (by kernel_rfl) (fun _ _ _ h => h) (Or.inl ⟨by rfl, ?_⟩) hS ?_
                rotate_left
                · intro w' hSw; go_simp; try rfl
                try simp only [Act.put, List.getElem_toArray, List.getElem_cons_succ, List.getElem_cons_zero, List.setIfInBounds_toArray, List.set_cons_zero, List.set_cons_succ]
                refine wpAnyH_take (i := 2) (v := ?_) rfl (by kernel_rfl) (by kernel_rfl) (by kernel_rfl) (fun _ _ _ h => h) (Or.inl ⟨by rfl, ?_⟩) hS ?_
                rotate_left
                · intro w' hSw; go_simp; try rfl
                try simp only [Act.put, List.getElem_toArray, List.getElem_cons_succ, List.getElem_cons_zero, List.setIfInBounds_toArray, List.set_cons_zero, List.set_cons_succ]
                refine wpAnyH_take (i := 3) (v := ?_) rfl (by kernel_rfl) (by kernel_rfl) (by kernel_rfl) (fun _ _ _ h => h) (Or.inl ⟨by rfl, ?_⟩) hS ?_
                rotate_left
                · intro w' hSw; obtain ⟨s1, s2⟩ := hSw; go_simp; try rfl
                try simp only [Act.put, List.getElem_toArray, List.getElem_cons_succ, List.getElem_cons_zero, List.setIfInBounds_toArray, List.set_cons_zero, List.set_cons_succ]
                refine wpAnyH_take (i := 4) (v := ?_) rfl (by kernel_rfl) (by kernel_rfl) (by kernel_rfl) (fun _ _ _ h => h) (Or.inl ⟨by rfl, ?_⟩) hS ?_
                rotate_left
                · intro w' hSw; go_simp; try rfl
                try simp only [Act.put, List.getElem_toArray, List.getElem_cons_succ, List.getElem_cons_zero, List.setIfInBounds_toArray, List.set_cons_zero, List.set_cons_succ]
                refine wpAnyH_take (i := 5) (v := ?_) rfl (by kernel_rfl) (by kernel_rfl) (by kernel_rfl) (fun _ _ _ h => h) (Or.inl ⟨by rfl, ?_⟩) hS ?_
                rotate_left
                · intro w' hSw; go_simp; try rfl
                try simp only [Act.put, List.getElem_toArray, List.getElem_cons_succ, List.getElem_cons_zero, List.setIfInBounds_toArray, List.set_cons_zero, List.set_cons_succ]
                refine wpAnyH_take (i := 6) (v := ?_) rfl (by kernel_rfl) (by kernel_rfl) (by kernel_rfl) (fun _ _ _ h => h) (Or.inl ⟨by rfl, ?_⟩) hS ?_
                rotate_left
                · intro w' hSw; go_simp; try rfl
                try simp only [Act.put, List.getElem_toArray, List.getElem_cons_succ, List.getElem_cons_zero, List.setIfInBounds_toArray, List.set_cons_zero, List.set_cons_succ]
                refine wpAnyH_take (i := 7) (v := ?_) rfl (by kernel_rfl) (by kernel_rfl) (by kernel_rfl) (fun _ _ _ h => h) (Or.inl ⟨by rfl, ?_⟩) hS ?_
                rotate_left
                · intro w' hSw; obtain ⟨s1, s2⟩ := hSw; go_simp; try rfl
                try simp only [Act.put, List.getElem_toArray, List.getElem_cons_succ, List.getElem_cons_zero, List.setIfInBounds_toArray, List.set_cons_zero, List.set_cons_succ]
                refine wpAnyH_take (i := 8) (v := ?_) rfl (by kernel_rfl) (by kernel_rfl) (by kernel_rfl) (fun _ _ _ h => h) (Or.inl ⟨by rfl, ?_⟩) hS ?_
                rotate_left
                · intro w' hSw; go_simp; try rfl
                try simp only [Act.put, List.getElem_toArray, List.getElem_cons_succ, List.getElem_cons_zero, List.setIfInBounds_toArray, List.set_cons_zero, List.set_cons_succ]
                refine wpAnyH_take (i := 9) (v := ?_) rfl (by kernel_rfl) (by kernel_rfl) (by kernel_rfl) (fun _ _ _ h => h) (Or.inl ⟨by rfl, ?_⟩) hS ?_
                rotate_left
                · intro w' hSw; go_simp; try rfl
                try simp only [Act.put, List.getElem_toArray, List.getElem_cons_succ, List.getElem_cons_zero, List.setIfInBounds_toArray, List.set_cons_zero, List.set_cons_succ]
                refine wpAnyH_take (i := 10) (v := ?_) rfl (by kernel_rfl) (by kernel_rfl) (by kernel_rfl) (fun _ _ _ h => h) (Or.inl ⟨by rfl, ?_⟩) hS ?_
                rotate_left
                · intro w' hSw; go_simp; try rfl
                try simp only [Act.put, List.getElem_toArray, List.getElem_cons_succ, List.getElem_cons_zero, List.setIfInBounds_toArray, List.set_cons_zero, List.set_cons_succ]
                obtain ⟨u8, hcx⟩ := HFN2.out.cx
                have hfx := HFN2.out.fx
                have hT := HFN2.out.cg1
                have HCX : Hid (Cols _ w.heap.size (.slice (some ⟨ra, 0, none⟩) cs.length ca) _ F) := Lib.hid (by rw [HFE.out]; exact HFN2.out.c)
                have HBX9 := Lib.hid HFN2.out.b
                have HCY := Lib.hid HFN2.out.cy
                have HFY3 := Lib.hid HFN2.out.fy
                have HCG2 := Lib.hid HFN2.out.cg2
                clear HFN2
                refine wpAnyH_ready (rs := [11]) (by kernel_rfl) (by simp) ?_
                refine AllReadyH.cons rfl (fun K hK => ?_) AllReadyH.nil
                go_simp
                refine hK.out _ _ hT (fun hU => ?_)
                clear hK K hU hS hcx hfx u8
                have hS := hT
                clear hT
                generalize wd.setCell _ _ = wm at *
                try simp only [Act.put, List.getElem_toArray, List.getElem_cons_succ, List.getElem_cons_zero, List.setIfInBounds_toArray, List.set_cons_zero, List.set_cons_succ]
                refine wpAnyH_take (i := 12) (v := ?_) rfl (by kernel_rfl) (by kernel_rfl) (by kernel_rfl) (fun _ _ _ h => h) (Or.inl ⟨by rfl, ?_⟩) hS ?_
                rotate_left
                · intro w' hSw; go_simp; try rfl
                try simp only [Act.put, List.getElem_toArray, List.getElem_cons_succ, List.getElem_cons_zero, List.setIfInBounds_toArray, List.set_cons_zero, List.set_cons_succ]
                obtain ⟨u9, hcy⟩ := HCY.out
                have hfy := HFY3.out
                have hT := HCG2.out
                refine wpAnyH_ready (rs := [13]) (by kernel_rfl) (by simp) ?_
                refine AllReadyH.cons rfl (fun K hK => ?_) AllReadyH.nil
                go_simp
                refine hK.out _ _ hT (fun hU => ?_)
                clear hK K hU hS hcy hfy u9 hT HCY HFY3 HCG2
                generalize wm.setCell _ _ = w10 at *
                try simp only [Act.put, List.getElem_toArray, List.getElem_cons_succ, List.getElem_cons_zero, List.setIfInBounds_toArray, List.set_cons_zero, List.set_cons_succ]
                refine wpAnyH_done (by kernel_rfl) ?_ _
                go_wp2_with (fail)
                clear HFX HFY2 HGNE HAP HFY HPL HQL HFE
                generalize hys : (ys.set g _).set h _ = ysn at *
                clear hys
                generalize hu6 : Value.slice (some ⟨ra, 0, none⟩) cs.length ca = u6' at *
                clear hu6
                have HFB : Hid (Bytt F) := Lib.hid (by rw [← HF.out]; exact fill_bytt b0)
                have HFL : Hid (∀ c ∈ F, c.length ≤ n) := Lib.hid (by rw [← HF.out]; exact fill_le (fun c hc => by rcases HLC.out c hc with h | h <;> omega))
                have HFN : Hid (F.length = cs.length) := Lib.hid (by rw [← HF.out]; exact fill_len cs p q n)
                have CP := Lib.hid (clone_any w10 A1 c1 p (H1.out.below HBX9.out) (by rcases HLP.out with h | h <;> omega))
                go_wp2_with (fail)
                refine (CP.out).mono ?_
                rintro e w21 ⟨v2, rfl, hv2, hb21⟩
                have HV2 := Lib.hid hv2
                have HB21 := Lib.hid (HBX9.out.trans (hb21.mono HBX9.out.size))
                have HC21 := Lib.hid (HCX.out.below hb21)
                have HL2 : Hid (∀ (j : Nat) y k, (ysn)[j]? = some y → y.ownBlock = some k → v2.ownBlock ≠ some k) := Lib.hid (fun j y k hy hk h => by have a := (HCX.out.lt j y k hy hk).2; have b := (HV2.out.lt k h).1; omega)
                have HSZ1 := Lib.hid hb21.size
                clear hv2 hb21 CP
                have CQ := Lib.hid (clone_any w21 A2 c2 q (H2.out.below HB21.out) (by rcases HLQ.out with h | h <;> omega))
                go_wp2_with (fail)
                refine (CQ.out).mono ?_
                rintro e w22 ⟨v3, rfl, hv3, hb22⟩
                have HV3 := Lib.hid hv3
                have HB22 := Lib.hid (HB21.out.trans (hb22.mono HB21.out.size))
                have HC22 := Lib.hid (HC21.out.below hb22)
                have HV22 := Lib.hid (own_belowB HV2.out hb22)
                have HL3 : Hid (∀ (j : Nat) y k, (ysn)[j]? = some y → y.ownBlock = some k → v3.ownBlock ≠ some k) := Lib.hid (fun j y k hy hk h => by have a := (HCX.out.lt j y k hy hk).2; have b := (HV3.out.lt k h).1; have c := HSZ1.out; omega)
                have HL23 : Hid (∀ k, v2.ownBlock = some k → v3.ownBlock ≠ some k) := Lib.hid (fun k hk h => by have a := (HV2.out.lt k hk).2; have b := (HV3.out.lt k h).1; omega)
                have HSZ2 := Lib.hid hb22.size
                clear hv3 hb22 CQ
                obtain ⟨Aa, ca, hea, hca, hrd⟩ := HC22.out.C (by rw [HFN.out]; omega)
                subst hea
                have HCA := Lib.hid hca
                have SM2 := Lib.hid (sums_any w22 Aa ca F n hrd hca HFB.out HFL.out hn4 (by rw [HFN.out]; exact hl2))
                clear hca hrd
                go_wp2_with (fail)
                refine (SM2.out).mono ?_
                rintro e w23 ⟨v4, v5, rfl, hv4, hv5, hap, hb23⟩
                have HV4 := Lib.hid hv4
                have HV5 := Lib.hid hv5
                have HAP2 := Lib.hid hap
                have HB23 := Lib.hid (HB22.out.trans (hb23.mono HB22.out.size))
                have HC23 := Lib.hid (HC22.out.below hb23)
                have HV23 := Lib.hid (own_belowB HV22.out hb23)
                have HV33 := Lib.hid (own_belowB HV3.out hb23)
                have HLN : Hid (∀ k, (w22.heap.size ≤ k) → (∀ (j : Nat) y, (ysn)[j]? = some y → y.ownBlock ≠ some k) ∧ v2.ownBlock ≠ some k ∧ v3.ownBlock ≠ some k) := Lib.hid (fun k hk => ⟨fun j y hy h => by have a := (HCX.out.lt j y k hy h).2; have b := HSZ1.out; have c := HSZ2.out; omega, fun h => by have a := (HV2.out.lt k h).2; have c := HSZ2.out; omega, fun h => by have a := (HV3.out.lt k h).2; omega⟩)
                clear hv4 hv5 hap hb23 SM2
                have bx : w.heap.size ≤ w21.heap.size ∧ w.heap.size ≤ w22.heap.size ∧ w.heap.size ≤ w10.heap.size := ⟨HB21.out.size, HB22.out.size, HBX9.out.size⟩
                have HBX := Lib.hid bx
                clear bx
                by_cases hp0 : p.length = 0
                · have q1 : (((I p).length : Int) == 0) = true := bT (by rw [I_len]; omega)
                  have HP0 := Lib.hid hp0
                  clear hp0
                  by_cases hq0 : q.length = 0
                  · have q2 : (((I q).length : Int) == 0) = true := bT (by rw [I_len]; omega)
                    have HQ0 := Lib.hid hq0
                    clear hq0
                    go_wp2_with (fail)
                    refine bodyPost_ret (results_4 rfl _ _) rfl ?_
                    refine ⟨_, v4, v5, ysn, by rw [← HR.out]; rfl, by rw [← HR.out]; exact HC23.out, ?_, ?_, fun j y k hy hk => ⟨fun h => (HLN.out k (HV4.out.lt k h).1).1 j y hy hk, fun h => (HLN.out k (HV5.out.lt k h).1).1 j y hy hk⟩, fun k hk h => HAP2.out k hk h, HB23.out⟩
                    · rw [← HR.out]; simp only [if_pos HP0.out]; exact own_lower HV4.out HBX.out.2.1
                    · rw [← HR.out]; simp only [if_pos HQ0.out]; exact own_lower HV5.out HBX.out.2.1
                  · have q2 : (((I q).length : Int) == 0) = false := bF (by rw [I_len]; omega)
                    have HQ0 := Lib.hid hq0
                    clear hq0
                    go_wp2_with (fail)
                    refine bodyPost_ret (results_4 rfl _ _) rfl ?_
                    refine ⟨_, v4, v3, ysn, by rw [← HR.out]; rfl, by rw [← HR.out]; exact HC23.out, ?_, ?_, fun j y k hy hk => ⟨fun h => (HLN.out k (HV4.out.lt k h).1).1 j y hy hk, HL3.out j y k hy hk⟩, fun k hk h => (HLN.out k (HV4.out.lt k hk).1).2.2 h, HB23.out⟩
                    · rw [← HR.out]; simp only [if_pos HP0.out]; exact own_lower HV4.out HBX.out.2.1
                    · rw [← HR.out]; simp only [if_neg HQ0.out]; exact own_lower HV33.out HBX.out.1
                · have q1 : (((I p).length : Int) == 0) = false := bF (by rw [I_len]; omega)
                  have HP0 := Lib.hid hp0
                  clear hp0
                  by_cases hq0 : q.length = 0
                  · have q2 : (((I q).length : Int) == 0) = true := bT (by rw [I_len]; omega)
                    have HQ0 := Lib.hid hq0
                    clear hq0
                    go_wp2_with (fail)
                    refine bodyPost_ret (results_4 rfl _ _) rfl ?_
                    refine ⟨_, v2, v5, ysn, by rw [← HR.out]; rfl, by rw [← HR.out]; exact HC23.out, ?_, ?_, fun j y k hy hk => ⟨HL2.out j y k hy hk, fun h => (HLN.out k (HV5.out.lt k h).1).1 j y hy hk⟩, fun k hk h => (HLN.out k (HV5.out.lt k h).1).2.1 hk, HB23.out⟩
                    · rw [← HR.out]; simp only [if_neg HP0.out]; exact own_lower HV23.out HBX.out.2.2
                    · rw [← HR.out]; simp only [if_pos HQ0.out]; exact own_lower HV5.out HBX.out.2.1
                  · have q2 : (((I q).length : Int) == 0) = false := bF (by rw [I_len]; omega)
                    have HQ0 := Lib.hid hq0
                    clear hq0
                    go_wp2_with (fail)
                    refine bodyPost_ret (results_4 rfl _ _) rfl ?_
                    refine ⟨_, v2, v3, ysn, by rw [← HR.out]; rfl, by rw [← HR.out]; exact HC23.out, ?_, ?_, fun j y k hy hk => ⟨HL2.out j y k hy hk, HL3.out j y k hy hk⟩, fun k hk h => HL23.out k hk h, HB23.out⟩
                    · rw [← HR.out]; simp only [if_neg HP0.out]; exact own_lower HV23.out HBX.out.2.2
                    · rw [← HR.out]; simp only [if_neg HQ0.out]; exact own_lower HV33.out HBX.out.1
      · simp only [List.length_cons] at hg2; omega
end Go.Proofs.Ythjodjfjeamilaa.Wd
